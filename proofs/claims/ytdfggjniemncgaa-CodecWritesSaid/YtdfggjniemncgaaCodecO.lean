/- Chapter 29: the walk of the law CodecWrites. -/
import Derived.Test.YtdfggjniemncgaaCodecN
import Derived.Test.YtdfggjniemncgaaCodecL
namespace Go.Proofs.Ytdfggjniemncgaa.CodecO
open Go.RowKit Base Big Slices VintA VintB VintC VintD CodecA CodecB CodecC CodecI CodecJ CodecK CodecP CodecQ CodecR CodecG CodecF CodecL CodecN
open CodecH (of_made)
set_option linter.unusedVariables false
set_option linter.unusedSimpArgs false

/-- '==' of two requests in a plain region -/
theorem wpList_eqQ {w : World} {p q : Rq} {ops : Array Oper} {rest : List Oper} {a : Act} {Q : Exit → Act → World → Prop} {dst : Option Tmp} {x y : Operand} {ty t2 : TypeId} {pos : String} {aft : Array Edge} {gd : Option (Nat × Bool)}
    (hw : Region.wanted ⟨dst, .binOp .eql 36 x y t2, ty, pos, aft, gd⟩ (yielded ops a.tmps) = true) (hx : a.eval x = .agg (qc p)) (hy : a.eval y = .agg (qc q)) (h : wpList Try.prog ops Q rest (a.put dst (.bool (decide (qi p = qi q)))) w) : wpList Try.prog ops Q (⟨dst, .binOp .eql 36 x y t2, ty, pos, aft, gd⟩ :: rest) a w :=
  wpList_step fun K hK => by
    rw [if_pos hw]
    unfold Oper.wp
    rw [exec_eqG w a p q hx hy]
    exact hK _ _ h

section
variable (w : World)
set_option maxRecDepth 100000 in
set_option maxHeartbeats 8000000 in
theorem writes_bad (r s : Rq) (gr : ¬ GoodQ r) : Calls Try.prog 6 #[.agg (qc r), .agg (qc s)] w fun e w' => e = .returned (.bool true) ∧ Fr Nil w w' := by
  have HA := Lib.hid ((Bk.new w 36 (qc r)).alloc (.cells (qc s) 36))
  have G0 := Lib.hid (((Fr.refl Nil w).alloc (.cells (qc r) 36)).alloc (.cells (qc s) 36))
  have KR := Lib.hid (fun W => (show Calls Try.prog 15 #[.agg (qc r)] W fun e w' => e = .returned (.tuple #[.slice none 0 0, .int .i64 8]) ∧ Fr Nil W w' from Encode_bad W r gr))
  have KG := Lib.hid (fun W => (refgood_any W r).mono fun e w' h => (show e = .returned (.bool false) ∧ Fr Nil W w' from ⟨tells_no h.1 gr, h.2⟩))
  have KG' := Lib.hid (fun W => (Good_any W r).mono fun e w' h => (show e = .returned (.bool false) ∧ Fr Nil W w' from ⟨tells_no h.1 gr, h.2⟩))
  have KO := Lib.hid (fun W => Only_any W r)
  rw [only_bad gr] at KO
  have KL := Lib.hid (fun W => lives_true W)
  clear gr
  go_enter Try.func6, Try.ntmps6
  go_wp2_with (first
    | (with_reducible refine wpList_loadQ (dst := some 12) ?_ HA.out ?_); rfl)
  refine (KR.out _).mono ?_
  rintro e w1 ⟨rfl, hf1⟩
  have HA1 := Lib.hid (HA.out.fr hf1 id)
  have HF1 := Lib.hid (G0.out.trans hf1)
  clear hf1
  go_upto_region 2 with fail
  · have KS := Lib.hid (fun W (h : Fr Nil w1 W) => (show Bk W w.heap.size 36 (qc r) from HA1.out.fr h id))
    refine wp_region_held (S := fun w' => Bk w' w.heap.size 36 (qc r)) (by kernel_rfl) ?_
    have fz0 : Fr Nil w1 w1.drew := (Fr.refl Nil w1).drew
    change wpAnyH _ _ _ _ _ _ _ _ (World.drew _)
    refine wpAnyH_take (i := 0) (v := .agg (qc r)) rfl (by kernel_rfl) (by kernel_rfl) (by kernel_rfl) (fun _ _ _ h => h) (yields_loadG (by rfl) rfl Try.req_str (fun _ h => h) rfl) (KS.out _ fz0) ?_
    (try simp only [Act.put, List.getElem_toArray, List.getElem_cons_zero, List.getElem_cons_succ, List.setIfInBounds_toArray, List.set_cons_zero, List.set_cons_succ])
    refine wpAnyH_take (i := 2) (v := .agg (qc r)) rfl (by kernel_rfl) (by kernel_rfl) (by kernel_rfl) (fun _ _ _ h => h) (yields_loadG (by rfl) rfl Try.req_str (fun _ h => h) rfl) (KS.out _ fz0) ?_
    (try simp only [Act.put, List.getElem_toArray, List.getElem_cons_zero, List.getElem_cons_succ, List.setIfInBounds_toArray, List.set_cons_zero, List.set_cons_succ])
    refine wpAnyH_all (rs := [1]) (by kernel_rfl) (by simp) (fun i hi => ?_)
    obtain rfl : i = 1 := by simpa using hi
    refine wpOp_step rfl (fun K hK => ?_)
    go_simp
    refine (KG'.out _).mono ?_
    rintro e wz1 ⟨rfl, hfz1⟩
    have fz1 : Fr Nil _ _ := fz0.trans hfz1
    refine hK _ _ ⟨(KS.out _ fz1), ?_⟩
    clear hK K hi
    (try simp only [Act.put, List.getElem_toArray, List.getElem_cons_zero, List.getElem_cons_succ, List.setIfInBounds_toArray, List.set_cons_zero, List.set_cons_succ])
    refine wpAnyH_all (rs := [3]) (by kernel_rfl) (by simp) (fun i hi => ?_)
    obtain rfl : i = 3 := by simpa using hi
    refine wpOp_step rfl (fun K hK => ?_)
    go_simp
    refine (KG.out _).mono ?_
    rintro e wz2 ⟨rfl, hfz2⟩
    have fz2 : Fr Nil _ _ := fz1.trans hfz2
    refine hK _ _ ⟨(KS.out _ fz2), ?_⟩
    clear hK K hi
    (try simp only [Act.put, List.getElem_toArray, List.getElem_cons_zero, List.getElem_cons_succ, List.setIfInBounds_toArray, List.set_cons_zero, List.set_cons_succ])
    refine wpAnyH_take (i := 4) (v := .bool false) rfl (by kernel_rfl) (by kernel_rfl) (by kernel_rfl) (fun _ _ _ h => h) (Or.inl ⟨by rfl, fun w' hw' => by first | (go_simp; done) | (go_simp; rfl)⟩) (KS.out _ fz2) ?_
    (try simp only [Act.put, List.getElem_toArray, List.getElem_cons_zero, List.getElem_cons_succ, List.setIfInBounds_toArray, List.set_cons_zero, List.set_cons_succ])
    refine wpAnyH_done (by kernel_rfl) ?_ _
    have HA3 := Lib.hid (HA1.out.fr fz2 id)
    have HF3 := Lib.hid (HF1.out.trans fz2)
    clear KS
    generalize wz2 = w3 at *
    go_wp2_with (first
      | (with_reducible refine wpList_loadQ (dst := some 21) ?_ HA3.out ?_); rfl)
    refine (KG.out _).mono ?_
    rintro e w4 ⟨rfl, hf4⟩
    have HA4 := Lib.hid (HA3.out.fr hf4 id)
    have HF4 := Lib.hid (HF3.out.trans hf4)
    clear hf4
    go_wp2_with (first
      | (with_reducible refine wpList_loadQW (dst := some 32) ?_ ?_ HA4.out ?_); rfl; rfl)
    refine (KO.out _).mono ?_
    rintro e w5 ⟨rfl, hf5⟩
    have HF5 := Lib.hid (HF4.out.trans hf5)
    clear hf5
    go_wp2_with (first
      | (with_reducible refine wpList_eqQ (dst := some 35) (p := zQ) (q := zQ) ?_ ?_ ?_ ?_); rfl; rfl; rfl; rw [decide_eq_true (rfl : qi zQ = qi zQ)])
    refine (KL.out _).mono ?_
    rintro e w6 ⟨rfl, hf6⟩
    go_wp2_with fail
    go_ret
    exact ⟨rfl, HF5.out.trans hf6⟩

set_option maxRecDepth 100000 in
set_option maxHeartbeats 8000000 in
theorem writes_good (r s : Rq) (gr : GoodQ r) (lr : Long r) : Calls Try.prog 6 #[.agg (qc r), .agg (qc s)] w fun e w' => e = .returned (.bool true) ∧ Fr Nil w w' := by
  have HA := Lib.hid ((Bk.new w 36 (qc r)).alloc (.cells (qc s) 36))
  have HB := Lib.hid (new' (g := w.heap.size + 1) (w := w.alloc (.cells (qc r) 36)) (t := 36) (cs := qc s) (by simp))
  have G0 := Lib.hid (((Fr.refl Nil w).alloc (.cells (qc r) 36)).alloc (.cells (qc s) 36))
  have KR := Lib.hid (fun W => (show Calls Try.prog 15 #[.agg (qc r)] W fun e w' => ∃ u, e = .returned (.tuple #[u, .int .i64 0]) ∧ Fr Nil W w' ∧ Own EB w' W.heap.size u (encB r) from Encode_ok W r gr lr))
  have KG := Lib.hid (fun W => (refgood_any W r).mono fun e w' h => (show e = .returned (.bool true) ∧ Fr Nil W w' from ⟨tells_yes h.1 gr, h.2⟩))
  have KG' := Lib.hid (fun W => (Good_any W r).mono fun e w' h => (show e = .returned (.bool true) ∧ Fr Nil W w' from ⟨tells_yes h.1 gr, h.2⟩))
  have KN := Lib.hid (fun W => Only_any W r)
  have KO := Lib.hid (fun W => refonly_any W r gr)
  have KE := Lib.hid (fun W => refenc_any W r gr lr)
  have HLe := Lib.hid (enc_len lr)
  have HBy := Lib.hid (enc_bytes gr)
  have KD := Lib.hid (fun W v (h : Sl EB W v (encB r)) => Decode_ok W (by have := HLe.out; omega) HBy.out h (dec_enc gr lr))
  have KSm := Lib.hid (fun W => Same_any W r s)
  have hgo := Lib.hid (enc_only gr).2
  have KL := Lib.hid (fun W => lives_true W)
  have hse := str_dec HBy.out HBy.out
  rw [decide_eq_true rfl] at hse
  have HCV := Lib.hid (fun W (u : Value) (l : List Int) (h : Come EB W u l) => conv_any W h)
  clear gr lr
  generalize encB r = eb at *
  generalize onlyQ r = o at *
  go_enter Try.func6, Try.ntmps6
  go_wp2_with (first
    | (with_reducible refine wpList_loadQ (dst := some 12) ?_ HA.out ?_); rfl)
  refine (KR.out _).mono ?_
  rintro e w1 ⟨u5, rfl, hf1, ho1⟩
  have HU1 := Lib.hid (ho1.sl EB_ok).come
  have HA1 := Lib.hid (HA.out.fr hf1 id)
  have HB1 := Lib.hid (HB.out.fr hf1 id)
  have HF1 := Lib.hid (G0.out.trans hf1)
  clear hf1 ho1
  go_upto_region 2 with fail
  · have KS := Lib.hid (fun W (h : Fr Nil w1 W) => (show Bk W w.heap.size 36 (qc r) from HA1.out.fr h id))
    refine wp_region_held (S := fun w' => Bk w' w.heap.size 36 (qc r)) (by kernel_rfl) ?_
    have fz0 : Fr Nil w1 w1.drew := (Fr.refl Nil w1).drew
    change wpAnyH _ _ _ _ _ _ _ _ (World.drew _)
    refine wpAnyH_take (i := 0) (v := .agg (qc r)) rfl (by kernel_rfl) (by kernel_rfl) (by kernel_rfl) (fun _ _ _ h => h) (yields_loadG (by rfl) rfl Try.req_str (fun _ h => h) rfl) (KS.out _ fz0) ?_
    (try simp only [Act.put, List.getElem_toArray, List.getElem_cons_zero, List.getElem_cons_succ, List.setIfInBounds_toArray, List.set_cons_zero, List.set_cons_succ])
    refine wpAnyH_take (i := 2) (v := .agg (qc r)) rfl (by kernel_rfl) (by kernel_rfl) (by kernel_rfl) (fun _ _ _ h => h) (yields_loadG (by rfl) rfl Try.req_str (fun _ h => h) rfl) (KS.out _ fz0) ?_
    (try simp only [Act.put, List.getElem_toArray, List.getElem_cons_zero, List.getElem_cons_succ, List.setIfInBounds_toArray, List.set_cons_zero, List.set_cons_succ])
    refine wpAnyH_all (rs := [1]) (by kernel_rfl) (by simp) (fun i hi => ?_)
    obtain rfl : i = 1 := by simpa using hi
    refine wpOp_step rfl (fun K hK => ?_)
    go_simp
    refine (KG'.out _).mono ?_
    rintro e wz1 ⟨rfl, hfz1⟩
    have fz1 : Fr Nil _ _ := fz0.trans hfz1
    refine hK _ _ ⟨(KS.out _ fz1), ?_⟩
    clear hK K hi
    (try simp only [Act.put, List.getElem_toArray, List.getElem_cons_zero, List.getElem_cons_succ, List.setIfInBounds_toArray, List.set_cons_zero, List.set_cons_succ])
    refine wpAnyH_all (rs := [3]) (by kernel_rfl) (by simp) (fun i hi => ?_)
    obtain rfl : i = 3 := by simpa using hi
    refine wpOp_step rfl (fun K hK => ?_)
    go_simp
    refine (KG.out _).mono ?_
    rintro e wz2 ⟨rfl, hfz2⟩
    have fz2 : Fr Nil _ _ := fz1.trans hfz2
    refine hK _ _ ⟨(KS.out _ fz2), ?_⟩
    clear hK K hi
    (try simp only [Act.put, List.getElem_toArray, List.getElem_cons_zero, List.getElem_cons_succ, List.setIfInBounds_toArray, List.set_cons_zero, List.set_cons_succ])
    refine wpAnyH_take (i := 4) (v := .bool false) rfl (by kernel_rfl) (by kernel_rfl) (by kernel_rfl) (fun _ _ _ h => h) (Or.inl ⟨by rfl, fun w' hw' => by first | (go_simp; done) | (go_simp; rfl)⟩) (KS.out _ fz2) ?_
    (try simp only [Act.put, List.getElem_toArray, List.getElem_cons_zero, List.getElem_cons_succ, List.setIfInBounds_toArray, List.set_cons_zero, List.set_cons_succ])
    refine wpAnyH_done (by kernel_rfl) ?_ _
    have HA3 := Lib.hid (HA1.out.fr fz2 id)
    have HF3 := Lib.hid (HF1.out.trans fz2)
    clear KS
    have HB3 := Lib.hid (HB1.out.fr fz2 id)
    have HU3 := Lib.hid (HU1.out.fr fz2)
    generalize wz2 = w3 at *
    go_wp2_with (first
      | (with_reducible refine wpList_loadQ (dst := some 21) ?_ HA3.out ?_); rfl)
    refine (KG.out _).mono ?_
    rintro e w4 ⟨rfl, hf4⟩
    have HA4 := Lib.hid (HA3.out.fr hf4 id)
    have HB4 := Lib.hid (HB3.out.fr hf4 id)
    have HU4 := Lib.hid (HU3.out.fr hf4)
    have HF4 := Lib.hid (HF3.out.trans hf4)
    clear hf4
    go_wp2_with (first
      | (with_reducible refine wpList_loadQ (dst := some 40) ?_ HA4.out ?_); rfl)
    refine (KO.out _).mono ?_
    rintro e w5 ⟨rfl, hf5⟩
    have HA5 := Lib.hid ((HA4.out.fr hf5 id).alloc (.cells #[.int .i64 0, .int .i64 0, .int .i64 0, .int .i64 0, .int .i64 0, .int .i64 0, .int .i64 0, .int .i64 0, .int .i64 0, .int .i64 0, .int .i64 0, .int .i64 0, .int .i64 0, .int .i64 0, .int .i64 0, .int .i64 0, .int .i64 0, .int .i64 0] 36))
    have HB5 := Lib.hid ((HB4.out.fr hf5 id).alloc (.cells #[.int .i64 0, .int .i64 0, .int .i64 0, .int .i64 0, .int .i64 0, .int .i64 0, .int .i64 0, .int .i64 0, .int .i64 0, .int .i64 0, .int .i64 0, .int .i64 0, .int .i64 0, .int .i64 0, .int .i64 0, .int .i64 0, .int .i64 0, .int .i64 0] 36))
    have HU5 := Lib.hid ((HU4.out.fr hf5).fr ((Fr.refl Nil w5).alloc (.cells #[.int .i64 0, .int .i64 0, .int .i64 0, .int .i64 0, .int .i64 0, .int .i64 0, .int .i64 0, .int .i64 0, .int .i64 0, .int .i64 0, .int .i64 0, .int .i64 0, .int .i64 0, .int .i64 0, .int .i64 0, .int .i64 0, .int .i64 0, .int .i64 0] 36)))
    have HO5 := Lib.hid (Bk.new w5 36 #[.int .i64 0, .int .i64 0, .int .i64 0, .int .i64 0, .int .i64 0, .int .i64 0, .int .i64 0, .int .i64 0, .int .i64 0, .int .i64 0, .int .i64 0, .int .i64 0, .int .i64 0, .int .i64 0, .int .i64 0, .int .i64 0, .int .i64 0, .int .i64 0])
    have HF5 := Lib.hid ((HF4.out.trans hf5).alloc (.cells #[.int .i64 0, .int .i64 0, .int .i64 0, .int .i64 0, .int .i64 0, .int .i64 0, .int .i64 0, .int .i64 0, .int .i64 0, .int .i64 0, .int .i64 0, .int .i64 0, .int .i64 0, .int .i64 0, .int .i64 0, .int .i64 0, .int .i64 0, .int .i64 0] 36))
    have HS5 := Lib.hid (HB4.out.fr hf5 id).lt
    have HF5' := Lib.hid (HF4.out.trans hf5)
    have HU5' := Lib.hid (HU4.out.fr hf5)
    clear hf5
    go_wp2_with (first
      | (with_reducible refine wpList_storeQ (x := .tmp 7) (y := .tmp 41) (q := o) ?_ ?_ HO5.out ?_ ?_); rfl; rfl; rfl; intro w6 hb6 hf6; have HO6 := Lib.hid hb6; have HA6 := Lib.hid (HA5.out.fr hf6 (by have := HS5.out; omega)); have HB6 := Lib.hid (HB5.out.fr hf6 (by have := HS5.out; omega)); have HF6 := Lib.hid (HF5.out.then hf6 (fun k hk hlt => by have := HS5.out; omega)); have HU6 := Lib.hid (HU5'.out.fr (Fr.then (S := Nil) ((Fr.refl Nil w5).alloc (.cells #[.int .i64 0, .int .i64 0, .int .i64 0, .int .i64 0, .int .i64 0, .int .i64 0, .int .i64 0, .int .i64 0, .int .i64 0, .int .i64 0, .int .i64 0, .int .i64 0, .int .i64 0, .int .i64 0, .int .i64 0, .int .i64 0, .int .i64 0, .int .i64 0] 36)) hf6 (fun k hk hlt => by omega))); have HM6 := Lib.hid (show w5.heap.size < w6.heap.size from hb6.lt); clear hb6 hf6
      | (at_builtin; refine wpList_app EB_ok rfl (.tmp 43) (.tmp 44) 22 rfl rfl w6.heap.size _ _ [] eb rfl (Own.made (by simp) (by simp)) rfl (HU6.out.fr ((Fr.refl Nil w6).alloc _)) (by have := HLe.out; simp; omega) (by simp) ?_; intro v7 w7 o7' o2 o3 o4; have o7 : Own EB w7 w6.heap.size v7 eb := o7'; have HV7 := Lib.hid (o7.sl EB_ok); have HX7 := Lib.hid (show Fr Nil w6 w7 from ((Fr.refl Nil w6).alloc (.cells #[] 5)).then o2 (fun i hi hlt => by have := of_made hi; omega)); clear o7 o7' o2 o3 o4))
    refine (KD.out w7 v7 HV7.out).mono ?_
    rintro e w8 ⟨rfl, hf8⟩
    have HY8 := Lib.hid (HX7.out.trans hf8)
    have HA8 := Lib.hid ((HA6.out.fr HY8.out id).alloc (.cells #[.int .i64 0, .int .i64 0, .int .i64 0, .int .i64 0, .int .i64 0, .int .i64 0, .int .i64 0, .int .i64 0, .int .i64 0, .int .i64 0, .int .i64 0, .int .i64 0, .int .i64 0, .int .i64 0, .int .i64 0, .int .i64 0, .int .i64 0, .int .i64 0] 36))
    have HB8 := Lib.hid ((HB6.out.fr HY8.out id).alloc (.cells #[.int .i64 0, .int .i64 0, .int .i64 0, .int .i64 0, .int .i64 0, .int .i64 0, .int .i64 0, .int .i64 0, .int .i64 0, .int .i64 0, .int .i64 0, .int .i64 0, .int .i64 0, .int .i64 0, .int .i64 0, .int .i64 0, .int .i64 0, .int .i64 0] 36))
    have HO8 := Lib.hid ((HO6.out.fr HY8.out id).alloc (.cells #[.int .i64 0, .int .i64 0, .int .i64 0, .int .i64 0, .int .i64 0, .int .i64 0, .int .i64 0, .int .i64 0, .int .i64 0, .int .i64 0, .int .i64 0, .int .i64 0, .int .i64 0, .int .i64 0, .int .i64 0, .int .i64 0, .int .i64 0, .int .i64 0] 36))
    have HX8 := Lib.hid (Bk.new w8 36 #[.int .i64 0, .int .i64 0, .int .i64 0, .int .i64 0, .int .i64 0, .int .i64 0, .int .i64 0, .int .i64 0, .int .i64 0, .int .i64 0, .int .i64 0, .int .i64 0, .int .i64 0, .int .i64 0, .int .i64 0, .int .i64 0, .int .i64 0, .int .i64 0])
    have HF8 := Lib.hid ((HF6.out.trans HY8.out).alloc (.cells #[.int .i64 0, .int .i64 0, .int .i64 0, .int .i64 0, .int .i64 0, .int .i64 0, .int .i64 0, .int .i64 0, .int .i64 0, .int .i64 0, .int .i64 0, .int .i64 0, .int .i64 0, .int .i64 0, .int .i64 0, .int .i64 0, .int .i64 0, .int .i64 0] 36))
    have HS8 := Lib.hid (show w5.heap.size < w8.heap.size from (HO6.out.fr HY8.out id).lt)
    have HU8 := Lib.hid (HU6.out.fr HY8.out)
    clear hf8
    go_wp2_with (first
      | (with_reducible refine wpList_storeQ (x := .tmp 8) (y := .tmp 47) (q := o) ?_ ?_ HX8.out ?_ ?_); rfl; rfl; rfl; intro w9 hb9 hf9; have HX9 := Lib.hid hb9; have HA9 := Lib.hid (HA8.out.fr hf9 (by have := HS5.out; have := HS8.out; omega)); have HB9 := Lib.hid (HB8.out.fr hf9 (by have := HS5.out; have := HS8.out; omega)); have HO9 := Lib.hid (HO8.out.fr hf9 (by have := HS8.out; omega)); have HF9 := Lib.hid (HF8.out.then hf9 (fun k hk hlt => by have := HS5.out; have := HS8.out; omega)); have HU9 := Lib.hid (HU8.out.fr (Fr.then (S := Nil) ((Fr.refl Nil w8).alloc (.cells #[.int .i64 0, .int .i64 0, .int .i64 0, .int .i64 0, .int .i64 0, .int .i64 0, .int .i64 0, .int .i64 0, .int .i64 0, .int .i64 0, .int .i64 0, .int .i64 0, .int .i64 0, .int .i64 0, .int .i64 0, .int .i64 0, .int .i64 0, .int .i64 0] 36)) hf9 (fun k hk hlt => by omega))); clear hb9 hf9
      | (with_reducible refine wpList_loadQ (dst := some 49) ?_ HA9.out ?_); rfl
      | (with_reducible refine wpList_loadQ (dst := some 50) ?_ HB9.out ?_); rfl)
    clear HA HB HA1 HB1 HA3 HB3 HA4 HB4 HA5 HB5 HA6 HB6 HA8 HB8 HO5 HO6 HO8 HX8 HF1 HF3 HF4 HF5 HF6 HF8 HU1 HU3 HU4 HU5 HU6 HU8
    generalize w5.heap.size = m7 at *
    generalize w8.heap.size = m8 at *
    refine (KSm.out _).mono ?_
    rintro e w10 ⟨rfl, hf10⟩
    have HA10 := Lib.hid (HA9.out.fr hf10 id)
    have HB10 := Lib.hid (HB9.out.fr hf10 id)
    have HO10 := Lib.hid (HO9.out.fr hf10 id)
    have HX10 := Lib.hid (HX9.out.fr hf10 id)
    have HU10 := Lib.hid (HU9.out.fr hf10)
    have HF10 := Lib.hid (HF9.out.trans hf10)
    clear hf10 HA9 HB9 HO9 HX9 HU9 HF9
    by_cases gs : GoodQ s
    · have KGs := Lib.hid (fun W => (refgood_any W s).mono fun e w' h => (show e = .returned (.bool true) ∧ Fr Nil W w' from ⟨tells_yes h.1 gs, h.2⟩))
      have KOs := Lib.hid (fun W => refonly_any W s gs)
      generalize onlyQ s = os at *
      generalize hb : decide (qi o = qi os) = b at *
      have HQs := Lib.hid (show decide (qi os = qi o) = b by rw [← hb]; exact decide_eq_decide.2 eq_comm)
      clear gs hb
      go_upto_region 9 with fail
      have KS := Lib.hid (fun W (h : Fr Nil w10 W) => (show Bk W (w.heap.size + 1) 36 (qc s) ∧ Bk W m7 36 (qc o) from ⟨HB10.out.fr h id, HO10.out.fr h id⟩))
      refine wp_region_held (S := fun w' => Bk w' (w.heap.size + 1) 36 (qc s) ∧ Bk w' m7 36 (qc o)) (by kernel_rfl) ?_
      have fz0 : Fr Nil w10 w10.drew := (Fr.refl Nil w10).drew
      change wpAnyH _ _ _ _ _ _ _ _ (World.drew _)
      refine wpAnyH_take (i := 0) (v := .bool b) rfl (by kernel_rfl) (by kernel_rfl) (by kernel_rfl) (fun _ _ _ h => h) (Or.inl ⟨by rfl, fun w' hw' => by first | (go_simp; done) | (go_simp; rfl)⟩) (KS.out _ fz0) ?_
      (try simp only [Act.put, List.getElem_toArray, List.getElem_cons_zero, List.getElem_cons_succ, List.setIfInBounds_toArray, List.set_cons_zero, List.set_cons_succ])
      refine wpAnyH_take (i := 1) (v := .agg (qc s)) rfl (by kernel_rfl) (by kernel_rfl) (by kernel_rfl) (fun _ _ _ h => h) (yields_loadG (by rfl) rfl Try.req_str (fun _ h => h.1) rfl) (KS.out _ fz0) ?_
      (try simp only [Act.put, List.getElem_toArray, List.getElem_cons_zero, List.getElem_cons_succ, List.setIfInBounds_toArray, List.set_cons_zero, List.set_cons_succ])
      refine wpAnyH_all (rs := [2]) (by kernel_rfl) (by simp) (fun i hi => ?_)
      obtain rfl : i = 2 := by simpa using hi
      refine wpOp_step rfl (fun K hK => ?_)
      go_simp
      refine (KGs.out _).mono ?_
      rintro e wz1 ⟨rfl, hfz1⟩
      have fz1 : Fr Nil _ _ := fz0.trans hfz1
      refine hK _ _ ⟨(KS.out _ fz1), ?_⟩
      clear hK K hi
      (try simp only [Act.put, List.getElem_toArray, List.getElem_cons_zero, List.getElem_cons_succ, List.setIfInBounds_toArray, List.set_cons_zero, List.set_cons_succ])
      refine wpAnyH_take (i := 3) (v := .bool true) rfl (by kernel_rfl) (by kernel_rfl) (by kernel_rfl) (fun _ _ _ h => h) (Or.inl ⟨by rfl, fun w' hw' => by first | (go_simp; done) | (go_simp; rfl)⟩) (KS.out _ fz1) ?_
      (try simp only [Act.put, List.getElem_toArray, List.getElem_cons_zero, List.getElem_cons_succ, List.setIfInBounds_toArray, List.set_cons_zero, List.set_cons_succ])
      refine wpAnyH_take (i := 4) (v := .agg (qc s)) rfl (by kernel_rfl) (by kernel_rfl) (by kernel_rfl) (fun _ _ _ h => h) (yields_loadG (by rfl) rfl Try.req_str (fun _ h => h.1) rfl) (KS.out _ fz1) ?_
      (try simp only [Act.put, List.getElem_toArray, List.getElem_cons_zero, List.getElem_cons_succ, List.setIfInBounds_toArray, List.set_cons_zero, List.set_cons_succ])
      refine wpAnyH_take (i := 6) (v := .agg (qc o)) rfl (by kernel_rfl) (by kernel_rfl) (by kernel_rfl) (fun _ _ _ h => h) (yields_loadG (by rfl) rfl Try.req_str (fun _ h => h.2) rfl) (KS.out _ fz1) ?_
      (try simp only [Act.put, List.getElem_toArray, List.getElem_cons_zero, List.getElem_cons_succ, List.setIfInBounds_toArray, List.set_cons_zero, List.set_cons_succ])
      refine wpAnyH_all (rs := [5]) (by kernel_rfl) (by simp) (fun i hi => ?_)
      obtain rfl : i = 5 := by simpa using hi
      refine wpOp_step rfl (fun K hK => ?_)
      go_simp
      refine (KOs.out _).mono ?_
      rintro e wz2 ⟨rfl, hfz2⟩
      have fz2 : Fr Nil _ _ := fz1.trans hfz2
      refine hK _ _ ⟨(KS.out _ fz2), ?_⟩
      clear hK K hi
      (try simp only [Act.put, List.getElem_toArray, List.getElem_cons_zero, List.getElem_cons_succ, List.setIfInBounds_toArray, List.set_cons_zero, List.set_cons_succ])
      refine wpAnyH_take (i := 7) (v := .bool b) rfl (by kernel_rfl) (by kernel_rfl) (by kernel_rfl) (fun _ _ _ h => h) (Or.inl ⟨by rfl, fun w' _ => (exec_eqG w' _ os o rfl rfl).trans (by rw [HQs.out])⟩) (KS.out _ fz2) ?_
      (try simp only [Act.put, List.getElem_toArray, List.getElem_cons_zero, List.getElem_cons_succ, List.setIfInBounds_toArray, List.set_cons_zero, List.set_cons_succ])
      refine wpAnyH_take (i := 8) (v := .bool b) rfl (by kernel_rfl) (by kernel_rfl) (by kernel_rfl) (fun _ _ _ h => h) (Or.inl ⟨by rfl, fun w' hw' => by first | (go_simp; done) | (go_simp; rfl)⟩) (KS.out _ fz2) ?_
      (try simp only [Act.put, List.getElem_toArray, List.getElem_cons_zero, List.getElem_cons_succ, List.setIfInBounds_toArray, List.set_cons_zero, List.set_cons_succ])
      refine wpAnyH_take (i := 9) (v := .bool false) rfl (by kernel_rfl) (by kernel_rfl) (by kernel_rfl) (fun _ _ _ h => h) (Or.inl ⟨by rfl, fun w' hw' => by first | (go_simp; done) | (go_simp; rfl)⟩) (KS.out _ fz2) ?_
      (try simp only [Act.put, List.getElem_toArray, List.getElem_cons_zero, List.getElem_cons_succ, List.setIfInBounds_toArray, List.set_cons_zero, List.set_cons_succ])
      refine wpAnyH_done (by kernel_rfl) ?_ _
      have HA11 := Lib.hid (HA10.out.fr fz2 id)
      have HO11 := Lib.hid (HO10.out.fr fz2 id)
      have HX11 := Lib.hid (HX10.out.fr fz2 id)
      have HU11 := Lib.hid (HU10.out.fr fz2)
      have HF11 := Lib.hid (HF10.out.trans fz2)
      clear KS
      generalize wz2 = w11 at *
      go_upto_region 11 with fail
      have KS := Lib.hid (fun W (h : Fr Nil w11 W) => (show (Bk W w.heap.size 36 (qc r) ∧ Bk W m7 36 (qc o)) ∧ Bk W m8 36 (qc o) ∧ Come EB W u5 eb from ⟨⟨HA11.out.fr h id, HO11.out.fr h id⟩, HX11.out.fr h id, HU11.out.fr h⟩))
      refine wp_region_held (S := fun w' => (Bk w' w.heap.size 36 (qc r) ∧ Bk w' m7 36 (qc o)) ∧ Bk w' m8 36 (qc o) ∧ Come EB w' u5 eb) (by kernel_rfl) ?_
      have fz0 : Fr Nil w11 w11.drew := (Fr.refl Nil w11).drew
      change wpAnyH _ _ _ _ _ _ _ _ (World.drew _)
      refine wpAnyH_take (i := 0) (v := .int .i64 0) rfl (by kernel_rfl) (by kernel_rfl) (by kernel_rfl) (fun _ _ _ h => h) (Or.inl ⟨by rfl, fun w' hw' => by first | (go_simp; done) | (go_simp; rfl)⟩) (KS.out _ fz0) ?_
      (try simp only [Act.put, List.getElem_toArray, List.getElem_cons_zero, List.getElem_cons_succ, List.setIfInBounds_toArray, List.set_cons_zero, List.set_cons_succ])
      refine wpAnyH_take (i := 1) (v := .bool true) rfl (by kernel_rfl) (by kernel_rfl) (by kernel_rfl) (fun _ _ _ h => h) (Or.inl ⟨by rfl, fun w' hw' => by first | (go_simp; done) | (go_simp; rfl)⟩) (KS.out _ fz0) ?_
      (try simp only [Act.put, List.getElem_toArray, List.getElem_cons_zero, List.getElem_cons_succ, List.setIfInBounds_toArray, List.set_cons_zero, List.set_cons_succ])
      refine wpAnyH_take (i := 2) (v := .bool true) rfl (by kernel_rfl) (by kernel_rfl) (by kernel_rfl) (fun _ _ _ h => h) (Or.inl ⟨by rfl, fun w' hw' => by first | (go_simp; done) | (go_simp; rfl)⟩) (KS.out _ fz0) ?_
      (try simp only [Act.put, List.getElem_toArray, List.getElem_cons_zero, List.getElem_cons_succ, List.setIfInBounds_toArray, List.set_cons_zero, List.set_cons_succ])
      refine wpAnyH_take (i := 3) (v := u5) rfl (by kernel_rfl) (by kernel_rfl) (by kernel_rfl) (fun _ _ _ h => h) (Or.inl ⟨by rfl, fun w' hw' => by first | (go_simp; done) | (go_simp; rfl)⟩) (KS.out _ fz0) ?_
      (try simp only [Act.put, List.getElem_toArray, List.getElem_cons_zero, List.getElem_cons_succ, List.setIfInBounds_toArray, List.set_cons_zero, List.set_cons_succ])
      refine wpAnyH_take (i := 4) (v := .string (strOfNums eb)) rfl (by kernel_rfl) (by kernel_rfl) (by kernel_rfl) (fun _ _ _ h => h) (Or.inl ⟨by rfl, fun w' hw' => by have he := HCV.out w' _ _ hw'.2.2; first | (go_simp; done) | (go_simp; rfl)⟩) (KS.out _ fz0) ?_
      (try simp only [Act.put, List.getElem_toArray, List.getElem_cons_zero, List.getElem_cons_succ, List.setIfInBounds_toArray, List.set_cons_zero, List.set_cons_succ])
      refine wpAnyH_take (i := 5) (v := .agg (qc r)) rfl (by kernel_rfl) (by kernel_rfl) (by kernel_rfl) (fun _ _ _ h => h) (yields_loadG (by rfl) rfl Try.req_str (fun _ h => h.1.1) rfl) (KS.out _ fz0) ?_
      (try simp only [Act.put, List.getElem_toArray, List.getElem_cons_zero, List.getElem_cons_succ, List.setIfInBounds_toArray, List.set_cons_zero, List.set_cons_succ])
      refine wpAnyH_all (rs := [6]) (by kernel_rfl) (by simp) (fun i hi => ?_)
      obtain rfl : i = 6 := by simpa using hi
      refine wpOp_step rfl (fun K hK => ?_)
      go_simp
      refine (KE.out _).mono ?_
      rintro e wz1 ⟨u6, rfl, hfz1, ho6⟩
      have fz1 : Fr Nil _ _ := fz0.trans hfz1
      have hcv6 := HCV.out _ _ _ (Sl.come (Own.sl EB_ok ho6))
      refine hK _ _ ⟨(KS.out _ fz1), ?_⟩
      clear hK K hi
      (try simp only [Act.put, List.getElem_toArray, List.getElem_cons_zero, List.getElem_cons_succ, List.setIfInBounds_toArray, List.set_cons_zero, List.set_cons_succ])
      refine wpAnyH_all (rs := [7]) (by kernel_rfl) (by simp) (fun i hi => ?_)
      obtain rfl : i = 7 := by simpa using hi
      refine wpOp_step rfl (fun K hK => ?_)
      go_simp
      refine hK _ _ ⟨(KS.out _ fz1), ?_⟩
      clear hK K hi
      (try simp only [Act.put, List.getElem_toArray, List.getElem_cons_zero, List.getElem_cons_succ, List.setIfInBounds_toArray, List.set_cons_zero, List.set_cons_succ])
      refine wpAnyH_take (i := 8) (v := .bool true) rfl (by kernel_rfl) (by kernel_rfl) (by kernel_rfl) (fun _ _ _ h => h) (Or.inl ⟨by rfl, fun w' hw' => by first | (go_simp; done) | (go_simp; rfl)⟩) (KS.out _ fz1) ?_
      (try simp only [Act.put, List.getElem_toArray, List.getElem_cons_zero, List.getElem_cons_succ, List.setIfInBounds_toArray, List.set_cons_zero, List.set_cons_succ])
      refine wpAnyH_take (i := 9) (v := .bool true) rfl (by kernel_rfl) (by kernel_rfl) (by kernel_rfl) (fun _ _ _ h => h) (Or.inl ⟨by rfl, fun w' hw' => by first | (go_simp; done) | (go_simp; rfl)⟩) (KS.out _ fz1) ?_
      (try simp only [Act.put, List.getElem_toArray, List.getElem_cons_zero, List.getElem_cons_succ, List.setIfInBounds_toArray, List.set_cons_zero, List.set_cons_succ])
      refine wpAnyH_take (i := 10) (v := .bool true) rfl (by kernel_rfl) (by kernel_rfl) (by kernel_rfl) (fun _ _ _ h => h) (Or.inl ⟨by rfl, fun w' hw' => by first | (go_simp; done) | (go_simp; rfl)⟩) (KS.out _ fz1) ?_
      (try simp only [Act.put, List.getElem_toArray, List.getElem_cons_zero, List.getElem_cons_succ, List.setIfInBounds_toArray, List.set_cons_zero, List.set_cons_succ])
      refine wpAnyH_take (i := 11) (v := .int .i64 0) rfl (by kernel_rfl) (by kernel_rfl) (by kernel_rfl) (fun _ _ _ h => h) (Or.inl ⟨by rfl, fun w' hw' => by first | (go_simp; done) | (go_simp; rfl)⟩) (KS.out _ fz1) ?_
      (try simp only [Act.put, List.getElem_toArray, List.getElem_cons_zero, List.getElem_cons_succ, List.setIfInBounds_toArray, List.set_cons_zero, List.set_cons_succ])
      refine wpAnyH_take (i := 12) (v := .bool true) rfl (by kernel_rfl) (by kernel_rfl) (by kernel_rfl) (fun _ _ _ h => h) (Or.inl ⟨by rfl, fun w' hw' => by first | (go_simp; done) | (go_simp; rfl)⟩) (KS.out _ fz1) ?_
      (try simp only [Act.put, List.getElem_toArray, List.getElem_cons_zero, List.getElem_cons_succ, List.setIfInBounds_toArray, List.set_cons_zero, List.set_cons_succ])
      refine wpAnyH_take (i := 13) (v := .bool true) rfl (by kernel_rfl) (by kernel_rfl) (by kernel_rfl) (fun _ _ _ h => h) (Or.inl ⟨by rfl, fun w' hw' => by first | (go_simp; done) | (go_simp; rfl)⟩) (KS.out _ fz1) ?_
      (try simp only [Act.put, List.getElem_toArray, List.getElem_cons_zero, List.getElem_cons_succ, List.setIfInBounds_toArray, List.set_cons_zero, List.set_cons_succ])
      refine wpAnyH_take (i := 14) (v := .bool true) rfl (by kernel_rfl) (by kernel_rfl) (by kernel_rfl) (fun _ _ _ h => h) (Or.inl ⟨by rfl, fun w' hw' => by first | (go_simp; done) | (go_simp; rfl)⟩) (KS.out _ fz1) ?_
      (try simp only [Act.put, List.getElem_toArray, List.getElem_cons_zero, List.getElem_cons_succ, List.setIfInBounds_toArray, List.set_cons_zero, List.set_cons_succ])
      refine wpAnyH_take (i := 15) (v := .agg (qc o)) rfl (by kernel_rfl) (by kernel_rfl) (by kernel_rfl) (fun _ _ _ h => h) (yields_loadG (by rfl) rfl Try.req_str (fun _ h => h.2.1) rfl) (KS.out _ fz1) ?_
      (try simp only [Act.put, List.getElem_toArray, List.getElem_cons_zero, List.getElem_cons_succ, List.setIfInBounds_toArray, List.set_cons_zero, List.set_cons_succ])
      refine wpAnyH_take (i := 16) (v := .agg (qc o)) rfl (by kernel_rfl) (by kernel_rfl) (by kernel_rfl) (fun _ _ _ h => h) (yields_loadG (by rfl) rfl Try.req_str (fun _ h => h.1.2) rfl) (KS.out _ fz1) ?_
      (try simp only [Act.put, List.getElem_toArray, List.getElem_cons_zero, List.getElem_cons_succ, List.setIfInBounds_toArray, List.set_cons_zero, List.set_cons_succ])
      refine wpAnyH_take (i := 17) (v := .bool true) rfl (by kernel_rfl) (by kernel_rfl) (by kernel_rfl) (fun _ _ _ h => h) (Or.inl ⟨by rfl, fun w' _ => (exec_eqG w' _ o o rfl rfl).trans (by rw [(decide_eq_true (rfl : qi o = qi o))])⟩) (KS.out _ fz1) ?_
      (try simp only [Act.put, List.getElem_toArray, List.getElem_cons_zero, List.getElem_cons_succ, List.setIfInBounds_toArray, List.set_cons_zero, List.set_cons_succ])
      refine wpAnyH_take (i := 18) (v := .bool true) rfl (by kernel_rfl) (by kernel_rfl) (by kernel_rfl) (fun _ _ _ h => h) (Or.inl ⟨by rfl, fun w' hw' => by first | (go_simp; done) | (go_simp; rfl)⟩) (KS.out _ fz1) ?_
      (try simp only [Act.put, List.getElem_toArray, List.getElem_cons_zero, List.getElem_cons_succ, List.setIfInBounds_toArray, List.set_cons_zero, List.set_cons_succ])
      refine wpAnyH_take (i := 19) (v := .bool true) rfl (by kernel_rfl) (by kernel_rfl) (by kernel_rfl) (fun _ _ _ h => h) (Or.inl ⟨by rfl, fun w' hw' => by first | (go_simp; done) | (go_simp; rfl)⟩) (KS.out _ fz1) ?_
      (try simp only [Act.put, List.getElem_toArray, List.getElem_cons_zero, List.getElem_cons_succ, List.setIfInBounds_toArray, List.set_cons_zero, List.set_cons_succ])
      refine wpAnyH_take (i := 20) (v := .agg (qc r)) rfl (by kernel_rfl) (by kernel_rfl) (by kernel_rfl) (fun _ _ _ h => h) (yields_loadG (by rfl) rfl Try.req_str (fun _ h => h.1.1) rfl) (KS.out _ fz1) ?_
      (try simp only [Act.put, List.getElem_toArray, List.getElem_cons_zero, List.getElem_cons_succ, List.setIfInBounds_toArray, List.set_cons_zero, List.set_cons_succ])
      refine wpAnyH_take (i := 22) (v := .agg (qc o)) rfl (by kernel_rfl) (by kernel_rfl) (by kernel_rfl) (fun _ _ _ h => h) (yields_loadG (by rfl) rfl Try.req_str (fun _ h => h.1.2) rfl) (KS.out _ fz1) ?_
      (try simp only [Act.put, List.getElem_toArray, List.getElem_cons_zero, List.getElem_cons_succ, List.setIfInBounds_toArray, List.set_cons_zero, List.set_cons_succ])
      refine wpAnyH_all (rs := [21]) (by kernel_rfl) (by simp) (fun i hi => ?_)
      obtain rfl : i = 21 := by simpa using hi
      refine wpOp_step rfl (fun K hK => ?_)
      go_simp
      refine (KN.out _).mono ?_
      rintro e wz2 ⟨rfl, hfz2⟩
      have fz2 : Fr Nil _ _ := fz1.trans hfz2
      refine hK _ _ ⟨(KS.out _ fz2), ?_⟩
      clear hK K hi
      (try simp only [Act.put, List.getElem_toArray, List.getElem_cons_zero, List.getElem_cons_succ, List.setIfInBounds_toArray, List.set_cons_zero, List.set_cons_succ])
      refine wpAnyH_take (i := 23) (v := .bool true) rfl (by kernel_rfl) (by kernel_rfl) (by kernel_rfl) (fun _ _ _ h => h) (Or.inl ⟨by rfl, fun w' _ => (exec_eqG w' _ o o rfl rfl).trans (by rw [(decide_eq_true (rfl : qi o = qi o))])⟩) (KS.out _ fz2) ?_
      (try simp only [Act.put, List.getElem_toArray, List.getElem_cons_zero, List.getElem_cons_succ, List.setIfInBounds_toArray, List.set_cons_zero, List.set_cons_succ])
      refine wpAnyH_take (i := 24) (v := .bool true) rfl (by kernel_rfl) (by kernel_rfl) (by kernel_rfl) (fun _ _ _ h => h) (Or.inl ⟨by rfl, fun w' hw' => by first | (go_simp; done) | (go_simp; rfl)⟩) (KS.out _ fz2) ?_
      (try simp only [Act.put, List.getElem_toArray, List.getElem_cons_zero, List.getElem_cons_succ, List.setIfInBounds_toArray, List.set_cons_zero, List.set_cons_succ])
      refine wpAnyH_take (i := 25) (v := .bool true) rfl (by kernel_rfl) (by kernel_rfl) (by kernel_rfl) (fun _ _ _ h => h) (Or.inl ⟨by rfl, fun w' hw' => by first | (go_simp; done) | (go_simp; rfl)⟩) (KS.out _ fz2) ?_
      (try simp only [Act.put, List.getElem_toArray, List.getElem_cons_zero, List.getElem_cons_succ, List.setIfInBounds_toArray, List.set_cons_zero, List.set_cons_succ])
      refine wpAnyH_all (rs := [26]) (by kernel_rfl) (by simp) (fun i hi => ?_)
      obtain rfl : i = 26 := by simpa using hi
      refine wpOp_step rfl (fun K hK => ?_)
      go_simp
      refine (KL.out _).mono ?_
      rintro e wz3 ⟨rfl, hfz3⟩
      have fz3 : Fr Nil _ _ := fz2.trans hfz3
      refine hK _ _ ⟨(KS.out _ fz3), ?_⟩
      clear hK K hi
      (try simp only [Act.put, List.getElem_toArray, List.getElem_cons_zero, List.getElem_cons_succ, List.setIfInBounds_toArray, List.set_cons_zero, List.set_cons_succ])
      refine wpAnyH_take (i := 27) (v := .bool true) rfl (by kernel_rfl) (by kernel_rfl) (by kernel_rfl) (fun _ _ _ h => h) (Or.inl ⟨by rfl, fun w' hw' => by first | (go_simp; done) | (go_simp; rfl)⟩) (KS.out _ fz3) ?_
      (try simp only [Act.put, List.getElem_toArray, List.getElem_cons_zero, List.getElem_cons_succ, List.setIfInBounds_toArray, List.set_cons_zero, List.set_cons_succ])
      refine wpAnyH_take (i := 28) (v := .bool true) rfl (by kernel_rfl) (by kernel_rfl) (by kernel_rfl) (fun _ _ _ h => h) (Or.inl ⟨by rfl, fun w' hw' => by first | (go_simp; done) | (go_simp; rfl)⟩) (KS.out _ fz3) ?_
      (try simp only [Act.put, List.getElem_toArray, List.getElem_cons_zero, List.getElem_cons_succ, List.setIfInBounds_toArray, List.set_cons_zero, List.set_cons_succ])
      refine wpAnyH_done (by kernel_rfl) ?_ _
      go_wp2_with fail
      go_ret
      exact ⟨rfl, HF11.out.trans fz3⟩
    · have KGs := Lib.hid (fun W => (refgood_any W s).mono fun e w' h => (show e = .returned (.bool false) ∧ Fr Nil W w' from ⟨tells_no h.1 gs, h.2⟩))
      have hb : decide (qi o = qi (onlyQ s)) = false := decide_eq_false fun h => by
        rw [only_bad gs] at h
        have h1 := qi_inj h
        have h2 := hgo.out
        rw [h1] at h2
        unfold GoodQ at h2
        dsimp only at h2
        omega
      generalize decide (qi o = qi (onlyQ s)) = b at *
      subst hb
      clear gs
      go_upto_region 9 with fail
      have KS := Lib.hid (fun W (h : Fr Nil w10 W) => (show Bk W (w.heap.size + 1) 36 (qc s) ∧ Bk W m7 36 (qc o) from ⟨HB10.out.fr h id, HO10.out.fr h id⟩))
      refine wp_region_held (S := fun w' => Bk w' (w.heap.size + 1) 36 (qc s) ∧ Bk w' m7 36 (qc o)) (by kernel_rfl) ?_
      have fz0 : Fr Nil w10 w10.drew := (Fr.refl Nil w10).drew
      change wpAnyH _ _ _ _ _ _ _ _ (World.drew _)
      refine wpAnyH_take (i := 0) (v := .bool false) rfl (by kernel_rfl) (by kernel_rfl) (by kernel_rfl) (fun _ _ _ h => h) (Or.inl ⟨by rfl, fun w' hw' => by first | (go_simp; done) | (go_simp; rfl)⟩) (KS.out _ fz0) ?_
      (try simp only [Act.put, List.getElem_toArray, List.getElem_cons_zero, List.getElem_cons_succ, List.setIfInBounds_toArray, List.set_cons_zero, List.set_cons_succ])
      refine wpAnyH_take (i := 1) (v := .agg (qc s)) rfl (by kernel_rfl) (by kernel_rfl) (by kernel_rfl) (fun _ _ _ h => h) (yields_loadG (by rfl) rfl Try.req_str (fun _ h => h.1) rfl) (KS.out _ fz0) ?_
      (try simp only [Act.put, List.getElem_toArray, List.getElem_cons_zero, List.getElem_cons_succ, List.setIfInBounds_toArray, List.set_cons_zero, List.set_cons_succ])
      refine wpAnyH_all (rs := [2]) (by kernel_rfl) (by simp) (fun i hi => ?_)
      obtain rfl : i = 2 := by simpa using hi
      refine wpOp_step rfl (fun K hK => ?_)
      go_simp
      refine (KGs.out _).mono ?_
      rintro e wz1 ⟨rfl, hfz1⟩
      have fz1 : Fr Nil _ _ := fz0.trans hfz1
      refine hK _ _ ⟨(KS.out _ fz1), ?_⟩
      clear hK K hi
      (try simp only [Act.put, List.getElem_toArray, List.getElem_cons_zero, List.getElem_cons_succ, List.setIfInBounds_toArray, List.set_cons_zero, List.set_cons_succ])
      refine wpAnyH_take (i := 3) (v := .bool false) rfl (by kernel_rfl) (by kernel_rfl) (by kernel_rfl) (fun _ _ _ h => h) (Or.inl ⟨by rfl, fun w' hw' => by first | (go_simp; done) | (go_simp; rfl)⟩) (KS.out _ fz1) ?_
      (try simp only [Act.put, List.getElem_toArray, List.getElem_cons_zero, List.getElem_cons_succ, List.setIfInBounds_toArray, List.set_cons_zero, List.set_cons_succ])
      refine wpAnyH_take (i := 4) (v := undef) rfl (by kernel_rfl) (by kernel_rfl) (by kernel_rfl) (fun _ _ _ h => h) (Or.inr ⟨by rfl, rfl⟩) (KS.out _ fz1) ?_
      (try simp only [Act.put, List.getElem_toArray, List.getElem_cons_zero, List.getElem_cons_succ, List.setIfInBounds_toArray, List.set_cons_zero, List.set_cons_succ])
      refine wpAnyH_take (i := 5) (v := undef) rfl (by kernel_rfl) (by kernel_rfl) (by kernel_rfl) (fun _ _ _ h => h) (Or.inr ⟨by rfl, rfl⟩) (KS.out _ fz1) ?_
      (try simp only [Act.put, List.getElem_toArray, List.getElem_cons_zero, List.getElem_cons_succ, List.setIfInBounds_toArray, List.set_cons_zero, List.set_cons_succ])
      refine wpAnyH_take (i := 6) (v := undef) rfl (by kernel_rfl) (by kernel_rfl) (by kernel_rfl) (fun _ _ _ h => h) (Or.inr ⟨by rfl, rfl⟩) (KS.out _ fz1) ?_
      (try simp only [Act.put, List.getElem_toArray, List.getElem_cons_zero, List.getElem_cons_succ, List.setIfInBounds_toArray, List.set_cons_zero, List.set_cons_succ])
      refine wpAnyH_take (i := 7) (v := undef) rfl (by kernel_rfl) (by kernel_rfl) (by kernel_rfl) (fun _ _ _ h => h) (Or.inr ⟨by rfl, rfl⟩) (KS.out _ fz1) ?_
      (try simp only [Act.put, List.getElem_toArray, List.getElem_cons_zero, List.getElem_cons_succ, List.setIfInBounds_toArray, List.set_cons_zero, List.set_cons_succ])
      refine wpAnyH_take (i := 8) (v := .bool false) rfl (by kernel_rfl) (by kernel_rfl) (by kernel_rfl) (fun _ _ _ h => h) (Or.inl ⟨by rfl, fun w' hw' => by first | (go_simp; done) | (go_simp; rfl)⟩) (KS.out _ fz1) ?_
      (try simp only [Act.put, List.getElem_toArray, List.getElem_cons_zero, List.getElem_cons_succ, List.setIfInBounds_toArray, List.set_cons_zero, List.set_cons_succ])
      refine wpAnyH_take (i := 9) (v := .bool false) rfl (by kernel_rfl) (by kernel_rfl) (by kernel_rfl) (fun _ _ _ h => h) (Or.inl ⟨by rfl, fun w' hw' => by first | (go_simp; done) | (go_simp; rfl)⟩) (KS.out _ fz1) ?_
      (try simp only [Act.put, List.getElem_toArray, List.getElem_cons_zero, List.getElem_cons_succ, List.setIfInBounds_toArray, List.set_cons_zero, List.set_cons_succ])
      refine wpAnyH_done (by kernel_rfl) ?_ _
      have HA11 := Lib.hid (HA10.out.fr fz1 id)
      have HO11 := Lib.hid (HO10.out.fr fz1 id)
      have HX11 := Lib.hid (HX10.out.fr fz1 id)
      have HU11 := Lib.hid (HU10.out.fr fz1)
      have HF11 := Lib.hid (HF10.out.trans fz1)
      clear KS
      generalize wz1 = w11 at *
      go_upto_region 11 with fail
      have KS := Lib.hid (fun W (h : Fr Nil w11 W) => (show (Bk W w.heap.size 36 (qc r) ∧ Bk W m7 36 (qc o)) ∧ Bk W m8 36 (qc o) ∧ Come EB W u5 eb from ⟨⟨HA11.out.fr h id, HO11.out.fr h id⟩, HX11.out.fr h id, HU11.out.fr h⟩))
      refine wp_region_held (S := fun w' => (Bk w' w.heap.size 36 (qc r) ∧ Bk w' m7 36 (qc o)) ∧ Bk w' m8 36 (qc o) ∧ Come EB w' u5 eb) (by kernel_rfl) ?_
      have fz0 : Fr Nil w11 w11.drew := (Fr.refl Nil w11).drew
      change wpAnyH _ _ _ _ _ _ _ _ (World.drew _)
      refine wpAnyH_take (i := 0) (v := .int .i64 0) rfl (by kernel_rfl) (by kernel_rfl) (by kernel_rfl) (fun _ _ _ h => h) (Or.inl ⟨by rfl, fun w' hw' => by first | (go_simp; done) | (go_simp; rfl)⟩) (KS.out _ fz0) ?_
      (try simp only [Act.put, List.getElem_toArray, List.getElem_cons_zero, List.getElem_cons_succ, List.setIfInBounds_toArray, List.set_cons_zero, List.set_cons_succ])
      refine wpAnyH_take (i := 1) (v := .bool true) rfl (by kernel_rfl) (by kernel_rfl) (by kernel_rfl) (fun _ _ _ h => h) (Or.inl ⟨by rfl, fun w' hw' => by first | (go_simp; done) | (go_simp; rfl)⟩) (KS.out _ fz0) ?_
      (try simp only [Act.put, List.getElem_toArray, List.getElem_cons_zero, List.getElem_cons_succ, List.setIfInBounds_toArray, List.set_cons_zero, List.set_cons_succ])
      refine wpAnyH_take (i := 2) (v := .bool true) rfl (by kernel_rfl) (by kernel_rfl) (by kernel_rfl) (fun _ _ _ h => h) (Or.inl ⟨by rfl, fun w' hw' => by first | (go_simp; done) | (go_simp; rfl)⟩) (KS.out _ fz0) ?_
      (try simp only [Act.put, List.getElem_toArray, List.getElem_cons_zero, List.getElem_cons_succ, List.setIfInBounds_toArray, List.set_cons_zero, List.set_cons_succ])
      refine wpAnyH_take (i := 3) (v := u5) rfl (by kernel_rfl) (by kernel_rfl) (by kernel_rfl) (fun _ _ _ h => h) (Or.inl ⟨by rfl, fun w' hw' => by first | (go_simp; done) | (go_simp; rfl)⟩) (KS.out _ fz0) ?_
      (try simp only [Act.put, List.getElem_toArray, List.getElem_cons_zero, List.getElem_cons_succ, List.setIfInBounds_toArray, List.set_cons_zero, List.set_cons_succ])
      refine wpAnyH_take (i := 4) (v := .string (strOfNums eb)) rfl (by kernel_rfl) (by kernel_rfl) (by kernel_rfl) (fun _ _ _ h => h) (Or.inl ⟨by rfl, fun w' hw' => by have he := HCV.out w' _ _ hw'.2.2; first | (go_simp; done) | (go_simp; rfl)⟩) (KS.out _ fz0) ?_
      (try simp only [Act.put, List.getElem_toArray, List.getElem_cons_zero, List.getElem_cons_succ, List.setIfInBounds_toArray, List.set_cons_zero, List.set_cons_succ])
      refine wpAnyH_take (i := 5) (v := .agg (qc r)) rfl (by kernel_rfl) (by kernel_rfl) (by kernel_rfl) (fun _ _ _ h => h) (yields_loadG (by rfl) rfl Try.req_str (fun _ h => h.1.1) rfl) (KS.out _ fz0) ?_
      (try simp only [Act.put, List.getElem_toArray, List.getElem_cons_zero, List.getElem_cons_succ, List.setIfInBounds_toArray, List.set_cons_zero, List.set_cons_succ])
      refine wpAnyH_all (rs := [6]) (by kernel_rfl) (by simp) (fun i hi => ?_)
      obtain rfl : i = 6 := by simpa using hi
      refine wpOp_step rfl (fun K hK => ?_)
      go_simp
      refine (KE.out _).mono ?_
      rintro e wz1 ⟨u6, rfl, hfz1, ho6⟩
      have fz1 : Fr Nil _ _ := fz0.trans hfz1
      have hcv6 := HCV.out _ _ _ (Sl.come (Own.sl EB_ok ho6))
      refine hK _ _ ⟨(KS.out _ fz1), ?_⟩
      clear hK K hi
      (try simp only [Act.put, List.getElem_toArray, List.getElem_cons_zero, List.getElem_cons_succ, List.setIfInBounds_toArray, List.set_cons_zero, List.set_cons_succ])
      refine wpAnyH_all (rs := [7]) (by kernel_rfl) (by simp) (fun i hi => ?_)
      obtain rfl : i = 7 := by simpa using hi
      refine wpOp_step rfl (fun K hK => ?_)
      go_simp
      refine hK _ _ ⟨(KS.out _ fz1), ?_⟩
      clear hK K hi
      (try simp only [Act.put, List.getElem_toArray, List.getElem_cons_zero, List.getElem_cons_succ, List.setIfInBounds_toArray, List.set_cons_zero, List.set_cons_succ])
      refine wpAnyH_take (i := 8) (v := .bool true) rfl (by kernel_rfl) (by kernel_rfl) (by kernel_rfl) (fun _ _ _ h => h) (Or.inl ⟨by rfl, fun w' hw' => by first | (go_simp; done) | (go_simp; rfl)⟩) (KS.out _ fz1) ?_
      (try simp only [Act.put, List.getElem_toArray, List.getElem_cons_zero, List.getElem_cons_succ, List.setIfInBounds_toArray, List.set_cons_zero, List.set_cons_succ])
      refine wpAnyH_take (i := 9) (v := .bool true) rfl (by kernel_rfl) (by kernel_rfl) (by kernel_rfl) (fun _ _ _ h => h) (Or.inl ⟨by rfl, fun w' hw' => by first | (go_simp; done) | (go_simp; rfl)⟩) (KS.out _ fz1) ?_
      (try simp only [Act.put, List.getElem_toArray, List.getElem_cons_zero, List.getElem_cons_succ, List.setIfInBounds_toArray, List.set_cons_zero, List.set_cons_succ])
      refine wpAnyH_take (i := 10) (v := .bool true) rfl (by kernel_rfl) (by kernel_rfl) (by kernel_rfl) (fun _ _ _ h => h) (Or.inl ⟨by rfl, fun w' hw' => by first | (go_simp; done) | (go_simp; rfl)⟩) (KS.out _ fz1) ?_
      (try simp only [Act.put, List.getElem_toArray, List.getElem_cons_zero, List.getElem_cons_succ, List.setIfInBounds_toArray, List.set_cons_zero, List.set_cons_succ])
      refine wpAnyH_take (i := 11) (v := .int .i64 0) rfl (by kernel_rfl) (by kernel_rfl) (by kernel_rfl) (fun _ _ _ h => h) (Or.inl ⟨by rfl, fun w' hw' => by first | (go_simp; done) | (go_simp; rfl)⟩) (KS.out _ fz1) ?_
      (try simp only [Act.put, List.getElem_toArray, List.getElem_cons_zero, List.getElem_cons_succ, List.setIfInBounds_toArray, List.set_cons_zero, List.set_cons_succ])
      refine wpAnyH_take (i := 12) (v := .bool true) rfl (by kernel_rfl) (by kernel_rfl) (by kernel_rfl) (fun _ _ _ h => h) (Or.inl ⟨by rfl, fun w' hw' => by first | (go_simp; done) | (go_simp; rfl)⟩) (KS.out _ fz1) ?_
      (try simp only [Act.put, List.getElem_toArray, List.getElem_cons_zero, List.getElem_cons_succ, List.setIfInBounds_toArray, List.set_cons_zero, List.set_cons_succ])
      refine wpAnyH_take (i := 13) (v := .bool true) rfl (by kernel_rfl) (by kernel_rfl) (by kernel_rfl) (fun _ _ _ h => h) (Or.inl ⟨by rfl, fun w' hw' => by first | (go_simp; done) | (go_simp; rfl)⟩) (KS.out _ fz1) ?_
      (try simp only [Act.put, List.getElem_toArray, List.getElem_cons_zero, List.getElem_cons_succ, List.setIfInBounds_toArray, List.set_cons_zero, List.set_cons_succ])
      refine wpAnyH_take (i := 14) (v := .bool true) rfl (by kernel_rfl) (by kernel_rfl) (by kernel_rfl) (fun _ _ _ h => h) (Or.inl ⟨by rfl, fun w' hw' => by first | (go_simp; done) | (go_simp; rfl)⟩) (KS.out _ fz1) ?_
      (try simp only [Act.put, List.getElem_toArray, List.getElem_cons_zero, List.getElem_cons_succ, List.setIfInBounds_toArray, List.set_cons_zero, List.set_cons_succ])
      refine wpAnyH_take (i := 15) (v := .agg (qc o)) rfl (by kernel_rfl) (by kernel_rfl) (by kernel_rfl) (fun _ _ _ h => h) (yields_loadG (by rfl) rfl Try.req_str (fun _ h => h.2.1) rfl) (KS.out _ fz1) ?_
      (try simp only [Act.put, List.getElem_toArray, List.getElem_cons_zero, List.getElem_cons_succ, List.setIfInBounds_toArray, List.set_cons_zero, List.set_cons_succ])
      refine wpAnyH_take (i := 16) (v := .agg (qc o)) rfl (by kernel_rfl) (by kernel_rfl) (by kernel_rfl) (fun _ _ _ h => h) (yields_loadG (by rfl) rfl Try.req_str (fun _ h => h.1.2) rfl) (KS.out _ fz1) ?_
      (try simp only [Act.put, List.getElem_toArray, List.getElem_cons_zero, List.getElem_cons_succ, List.setIfInBounds_toArray, List.set_cons_zero, List.set_cons_succ])
      refine wpAnyH_take (i := 17) (v := .bool true) rfl (by kernel_rfl) (by kernel_rfl) (by kernel_rfl) (fun _ _ _ h => h) (Or.inl ⟨by rfl, fun w' _ => (exec_eqG w' _ o o rfl rfl).trans (by rw [(decide_eq_true (rfl : qi o = qi o))])⟩) (KS.out _ fz1) ?_
      (try simp only [Act.put, List.getElem_toArray, List.getElem_cons_zero, List.getElem_cons_succ, List.setIfInBounds_toArray, List.set_cons_zero, List.set_cons_succ])
      refine wpAnyH_take (i := 18) (v := .bool true) rfl (by kernel_rfl) (by kernel_rfl) (by kernel_rfl) (fun _ _ _ h => h) (Or.inl ⟨by rfl, fun w' hw' => by first | (go_simp; done) | (go_simp; rfl)⟩) (KS.out _ fz1) ?_
      (try simp only [Act.put, List.getElem_toArray, List.getElem_cons_zero, List.getElem_cons_succ, List.setIfInBounds_toArray, List.set_cons_zero, List.set_cons_succ])
      refine wpAnyH_take (i := 19) (v := .bool true) rfl (by kernel_rfl) (by kernel_rfl) (by kernel_rfl) (fun _ _ _ h => h) (Or.inl ⟨by rfl, fun w' hw' => by first | (go_simp; done) | (go_simp; rfl)⟩) (KS.out _ fz1) ?_
      (try simp only [Act.put, List.getElem_toArray, List.getElem_cons_zero, List.getElem_cons_succ, List.setIfInBounds_toArray, List.set_cons_zero, List.set_cons_succ])
      refine wpAnyH_take (i := 20) (v := .agg (qc r)) rfl (by kernel_rfl) (by kernel_rfl) (by kernel_rfl) (fun _ _ _ h => h) (yields_loadG (by rfl) rfl Try.req_str (fun _ h => h.1.1) rfl) (KS.out _ fz1) ?_
      (try simp only [Act.put, List.getElem_toArray, List.getElem_cons_zero, List.getElem_cons_succ, List.setIfInBounds_toArray, List.set_cons_zero, List.set_cons_succ])
      refine wpAnyH_take (i := 22) (v := .agg (qc o)) rfl (by kernel_rfl) (by kernel_rfl) (by kernel_rfl) (fun _ _ _ h => h) (yields_loadG (by rfl) rfl Try.req_str (fun _ h => h.1.2) rfl) (KS.out _ fz1) ?_
      (try simp only [Act.put, List.getElem_toArray, List.getElem_cons_zero, List.getElem_cons_succ, List.setIfInBounds_toArray, List.set_cons_zero, List.set_cons_succ])
      refine wpAnyH_all (rs := [21]) (by kernel_rfl) (by simp) (fun i hi => ?_)
      obtain rfl : i = 21 := by simpa using hi
      refine wpOp_step rfl (fun K hK => ?_)
      go_simp
      refine (KN.out _).mono ?_
      rintro e wz2 ⟨rfl, hfz2⟩
      have fz2 : Fr Nil _ _ := fz1.trans hfz2
      refine hK _ _ ⟨(KS.out _ fz2), ?_⟩
      clear hK K hi
      (try simp only [Act.put, List.getElem_toArray, List.getElem_cons_zero, List.getElem_cons_succ, List.setIfInBounds_toArray, List.set_cons_zero, List.set_cons_succ])
      refine wpAnyH_take (i := 23) (v := .bool true) rfl (by kernel_rfl) (by kernel_rfl) (by kernel_rfl) (fun _ _ _ h => h) (Or.inl ⟨by rfl, fun w' _ => (exec_eqG w' _ o o rfl rfl).trans (by rw [(decide_eq_true (rfl : qi o = qi o))])⟩) (KS.out _ fz2) ?_
      (try simp only [Act.put, List.getElem_toArray, List.getElem_cons_zero, List.getElem_cons_succ, List.setIfInBounds_toArray, List.set_cons_zero, List.set_cons_succ])
      refine wpAnyH_take (i := 24) (v := .bool true) rfl (by kernel_rfl) (by kernel_rfl) (by kernel_rfl) (fun _ _ _ h => h) (Or.inl ⟨by rfl, fun w' hw' => by first | (go_simp; done) | (go_simp; rfl)⟩) (KS.out _ fz2) ?_
      (try simp only [Act.put, List.getElem_toArray, List.getElem_cons_zero, List.getElem_cons_succ, List.setIfInBounds_toArray, List.set_cons_zero, List.set_cons_succ])
      refine wpAnyH_take (i := 25) (v := .bool true) rfl (by kernel_rfl) (by kernel_rfl) (by kernel_rfl) (fun _ _ _ h => h) (Or.inl ⟨by rfl, fun w' hw' => by first | (go_simp; done) | (go_simp; rfl)⟩) (KS.out _ fz2) ?_
      (try simp only [Act.put, List.getElem_toArray, List.getElem_cons_zero, List.getElem_cons_succ, List.setIfInBounds_toArray, List.set_cons_zero, List.set_cons_succ])
      refine wpAnyH_all (rs := [26]) (by kernel_rfl) (by simp) (fun i hi => ?_)
      obtain rfl : i = 26 := by simpa using hi
      refine wpOp_step rfl (fun K hK => ?_)
      go_simp
      refine (KL.out _).mono ?_
      rintro e wz3 ⟨rfl, hfz3⟩
      have fz3 : Fr Nil _ _ := fz2.trans hfz3
      refine hK _ _ ⟨(KS.out _ fz3), ?_⟩
      clear hK K hi
      (try simp only [Act.put, List.getElem_toArray, List.getElem_cons_zero, List.getElem_cons_succ, List.setIfInBounds_toArray, List.set_cons_zero, List.set_cons_succ])
      refine wpAnyH_take (i := 27) (v := .bool true) rfl (by kernel_rfl) (by kernel_rfl) (by kernel_rfl) (fun _ _ _ h => h) (Or.inl ⟨by rfl, fun w' hw' => by first | (go_simp; done) | (go_simp; rfl)⟩) (KS.out _ fz3) ?_
      (try simp only [Act.put, List.getElem_toArray, List.getElem_cons_zero, List.getElem_cons_succ, List.setIfInBounds_toArray, List.set_cons_zero, List.set_cons_succ])
      refine wpAnyH_take (i := 28) (v := .bool true) rfl (by kernel_rfl) (by kernel_rfl) (by kernel_rfl) (fun _ _ _ h => h) (Or.inl ⟨by rfl, fun w' hw' => by first | (go_simp; done) | (go_simp; rfl)⟩) (KS.out _ fz3) ?_
      (try simp only [Act.put, List.getElem_toArray, List.getElem_cons_zero, List.getElem_cons_succ, List.setIfInBounds_toArray, List.set_cons_zero, List.set_cons_succ])
      refine wpAnyH_done (by kernel_rfl) ?_ _
      go_wp2_with fail
      go_ret
      exact ⟨rfl, HF11.out.trans fz3⟩
theorem writes_any (r s : Rq) (lr : Long r) (ls : Long s) : Calls Try.prog 6 #[.agg (qc r), .agg (qc s)] w fun e w' => e = .returned (.bool true) ∧ Fr Nil w w' := by
  by_cases gr : GoodQ r
  · exact writes_good w r s gr lr
  · exact writes_bad w r s gr
end
end Go.Proofs.Ytdfggjniemncgaa.CodecO
