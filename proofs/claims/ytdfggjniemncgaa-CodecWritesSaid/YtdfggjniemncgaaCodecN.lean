/- Chapter 29: the walk of the law CodecReads. -/
import Derived.Test.YtdfggjniemncgaaCodecR
import Derived.Test.YtdfggjniemncgaaCodecH
namespace Go.Proofs.Ytdfggjniemncgaa.CodecN
open Go.RowKit Base Big Slices VintA VintB VintC VintD CodecA CodecB CodecC CodecI CodecJ CodecK CodecP CodecQ CodecR CodecG CodecF
open CodecH (of_made)
set_option linter.unusedVariables false
set_option linter.unusedSimpArgs false

theorem exec_eqG (W : World) (a : Act) (p q : Rq) {dst : Option Tmp} {x y : Operand} {ty t2 : TypeId} {pos : String} {aft : Array Edge} {gd : Option (Nat × Bool)} (hx : a.eval x = .agg (qc p)) (hy : a.eval y = .agg (qc q)) :
    (execOp a.eval ⟨dst, .binOp .eql 36 x y t2, ty, pos, aft, gd⟩).run Try.prog W = .ok (.value (.bool (decide (qi p = qi q)))) W := by
  unfold execOp
  simp only [hx, hy]
  simp only [Sem.run_bind, run_eqGuard_agg W _ _ _ _ _ _ Try.guard_req, Result.andThen_ok, run_eql_struct, eq_run, Sem.run_pure]
theorem yields_loadG {P : Program} {g : Nat} {T t : TypeId} {cs : Array Value} {ops : Array Oper} {S : World → Prop} {n : Nat} {a : Act} {dst : Option Tmp} {x : Operand} {ty : TypeId} {pos : String} {aft : Array Edge} {gd : Option (Nat × Bool)}
    (hw : Region.wanted ⟨dst, .load t x, ty, pos, aft, gd⟩ (yielded ops a.tmps) = true)
    (hx : a.eval x = .pointer (some ⟨g, 0, none⟩)) (hT : Str P t n) (hS : ∀ w, S w → Bk w g T cs) (hn : cs.size = n) : YieldsIf P ops S ⟨dst, .load t x, ty, pos, aft, gd⟩ (.agg cs) a :=
  .inl ⟨hw, fun w hw => by
    obtain ⟨⟨fs, hu⟩, hi⟩ := hT
    unfold execOp
    simp only [hx, Instr.loadAt, Instr.sureAddr, Sem.run_bind, Sem.run_pure, Result.andThen_ok, run_loadVar_row w g T t cs (0, 0) _ (hS w hw) hu rfl (by rw [hn]; exact hi)]⟩
theorem tells_yes {P : Prop} {e : Ending} (h : Tells P e) (hp : P) : e = .returned (.bool true) := by
  obtain ⟨b, rfl, hb⟩ := h
  cases b with
  | true => rfl
  | false => exact absurd (hb.2 hp) (by simp)
theorem tells_no {P : Prop} {e : Ending} (h : Tells P e) (hp : ¬ P) : e = .returned (.bool false) := by
  obtain ⟨b, rfl, hb⟩ := h
  cases b with
  | true => exact absurd (hb.1 rfl) hp
  | false => rfl

set_option maxRecDepth 100000 in
set_option maxHeartbeats 8000000 in
theorem reads_small (w : World) (b0 : List Int) (s : Rq) (v : Value) (hl : b0.length ≤ maxLen) (hb0 : Bytes b0) (hv : Come EB w v b0) (ls : Long s) (hbig' : ¬ (100 : Int) < b0.length) :
    Calls Try.prog 3 #[v, .agg (qc s)] w fun e w' => e = .returned (.bool true) ∧ Fr Nil w w' := by
  have hbig : ¬ (100 : Int) < b0.length := hbig'
  have hl100 : (b0.take 100).length ≤ 100 := by rw [List.length_take]; omega
  have HBy := Lib.hid (hb0.take 100)
  have hlm : (b0.length : Int) ≤ 9223372036854775807 := by unfold maxLen at hl; omega
  have HB := Lib.hid (Bk.new w 36 (qc s))
  have G0 := Lib.hid ((Fr.refl Nil w).alloc (.cells (qc s) 36))
  have LS := Lib.hid ls
  clear ls
  have HV := Lib.hid (show Come EB w v (b0.take 100) by rw [List.take_of_length_le (by omega)]; exact hv)
  obtain ⟨Av, cv, rfl⟩ := hv.shape
  clear hl hv
  go_enter Try.func3, Try.ntmps3
  go_upto_region 3 with fail
  generalize hv0 : Value.slice Av b0.length cv = v0 at HV ⊢
  clear hv0 hlm
  generalize List.take 100 b0 = bs at *
  clear hbig hbig'
  have hLb := Lib.hid hl100
  clear hl100
  have HCV := Lib.hid (fun W (u : Value) (l : List Int) (h : Come EB W u l) => conv_any W h)
  have KL := Lib.hid (fun W => lives_true W)
  have HVw := Lib.hid (HV.out.fr (G0.out.alloc (.cells #[] 5)))
  go_wp2_with (at_builtin; refine wpList_app EB_ok rfl (.tmp 13) (.tmp 14) 22 rfl rfl (w.heap.size + 1) _ _ [] bs rfl (Own.made (by simp) (by simp)) rfl HVw.out (by have := hLb.out; simp; omega) (by simp) ?_; intro v3 w3 o1' o2 o3 o4; have o1 : Own EB w3 (w.heap.size + 1) v3 bs := o1'; have HF3 := Lib.hid ((G0.out.alloc (.cells #[] 5)).then o2 (fun i hi hlt => by have := of_made hi; omega)); have HB3 := Lib.hid ((HB.out.alloc (.cells #[] 5)).fr o2 (fun hi => by have := of_made hi; omega)); have HO3 := Lib.hid (o1.sl EB_ok); clear o1 o1' o2 o3 o4)
  cases hd : CodecD.dec bs with
  | error xc =>
    obtain ⟨xx, cc⟩ := xc
    have KD := Lib.hid (Decode_bad w3 (by have := hLb.out; omega) HBy.out HO3.out hd)
    have HNo := Lib.hid (show GoodQ s → encB s ≠ bs from fun hg he => by rw [← he, dec_enc hg LS.out] at hd; cases hd)
    clear hd
    refine KD.out.mono ?_
    rintro e w4 ⟨rfl, hf4⟩
    have HF4 := Lib.hid ((HF3.out.trans hf4).alloc (.cells #[.int .i64 0, .int .i64 0, .int .i64 0, .int .i64 0, .int .i64 0, .int .i64 0, .int .i64 0, .int .i64 0, .int .i64 0, .int .i64 0, .int .i64 0, .int .i64 0, .int .i64 0, .int .i64 0, .int .i64 0, .int .i64 0, .int .i64 0, .int .i64 0] 36))
    have HB4 := Lib.hid ((HB3.out.fr hf4 id).alloc (.cells #[.int .i64 0, .int .i64 0, .int .i64 0, .int .i64 0, .int .i64 0, .int .i64 0, .int .i64 0, .int .i64 0, .int .i64 0, .int .i64 0, .int .i64 0, .int .i64 0, .int .i64 0, .int .i64 0, .int .i64 0, .int .i64 0, .int .i64 0, .int .i64 0] 36))
    have HX4 := Lib.hid (Bk.new w4 36 #[.int .i64 0, .int .i64 0, .int .i64 0, .int .i64 0, .int .i64 0, .int .i64 0, .int .i64 0, .int .i64 0, .int .i64 0, .int .i64 0, .int .i64 0, .int .i64 0, .int .i64 0, .int .i64 0, .int .i64 0, .int .i64 0, .int .i64 0, .int .i64 0])
    have HS4 := Lib.hid (HB3.out.fr hf4 id).lt
    clear hf4 KD
    go_upto_region 5 with (first
      | (with_reducible refine wpList_storeQ (x := .tmp 5) (y := .tmp 17) (q := zQ) ?_ ?_ HX4.out ?_ ?_); rfl; rfl; rfl; intro w5 hb5 hf5; have HX5 := Lib.hid hb5; have HB5 := Lib.hid (HB4.out.fr hf5 (by have := HS4.out; omega)); have HF5 := Lib.hid (HF4.out.then hf5 (fun k hk hlt => by have := HS4.out; omega)); have HV5 := Lib.hid (HV.out.fr HF5.out); clear hb5 hf5)
    generalize w4.heap.size = m at *
    clear HX4 HB4 HF4 HB3 HF3 HO3 HB G0 HV HVw
    have KS := Lib.hid (fun W (h : Fr Nil w5 W) => (show (Bk W w.heap.size 36 (qc s) ∧ Bk W m 36 (qc zQ)) ∧ Come EB W v0 bs from ⟨⟨HB5.out.fr h id, HX5.out.fr h id⟩, HV5.out.fr h⟩))
    by_cases hg : GoodQ s
    · have KG := Lib.hid (fun W => (refgood_any W s).mono fun e w' h => (show e = .returned (.bool true) ∧ Fr Nil W w' from ⟨tells_yes h.1 hg, h.2⟩))
      have KE := Lib.hid (fun W => refenc_any W s hg LS.out)
      have hse := str_dec (enc_bytes hg) HBy.out
      rw [decide_eq_false (HNo.out hg)] at hse
      clear hg
      refine wp_region_held (S := fun w' => (Bk w' w.heap.size 36 (qc s) ∧ Bk w' m 36 (qc zQ)) ∧ Come EB w' v0 bs) (by kernel_rfl) ?_
      have fz0 : Fr Nil w5 w5.drew := (Fr.refl Nil w5).drew
      change wpAnyH _ _ _ _ _ _ _ _ (World.drew _)
      refine wpAnyH_take (i := 0) (v := .int .i64 8) rfl (by kernel_rfl) (by kernel_rfl) (by kernel_rfl) (fun _ _ _ h => h) (Or.inl ⟨by rfl, fun w' hw' => by first | (go_simp; done) | (go_simp; rfl)⟩) (KS.out _ fz0) ?_
      (try simp only [Act.put, List.getElem_toArray, List.getElem_cons_zero, List.getElem_cons_succ, List.setIfInBounds_toArray, List.set_cons_zero, List.set_cons_succ])
      refine wpAnyH_take (i := 1) (v := .bool true) rfl (by kernel_rfl) (by kernel_rfl) (by kernel_rfl) (fun _ _ _ h => h) (Or.inl ⟨by rfl, fun w' hw' => by first | (go_simp; done) | (go_simp; rfl)⟩) (KS.out _ fz0) ?_
      (try simp only [Act.put, List.getElem_toArray, List.getElem_cons_zero, List.getElem_cons_succ, List.setIfInBounds_toArray, List.set_cons_zero, List.set_cons_succ])
      refine wpAnyH_take (i := 2) (v := .bool true) rfl (by kernel_rfl) (by kernel_rfl) (by kernel_rfl) (fun _ _ _ h => h) (Or.inl ⟨by rfl, fun w' hw' => by first | (go_simp; done) | (go_simp; rfl)⟩) (KS.out _ fz0) ?_
      (try simp only [Act.put, List.getElem_toArray, List.getElem_cons_zero, List.getElem_cons_succ, List.setIfInBounds_toArray, List.set_cons_zero, List.set_cons_succ])
      refine wpAnyH_take (i := 3) (v := .agg (qc zQ)) rfl (by kernel_rfl) (by kernel_rfl) (by kernel_rfl) (fun _ _ _ h => h) (yields_loadG (by rfl) rfl Try.req_str (fun _ h => h.1.2) rfl) (KS.out _ fz0) ?_
      (try simp only [Act.put, List.getElem_toArray, List.getElem_cons_zero, List.getElem_cons_succ, List.setIfInBounds_toArray, List.set_cons_zero, List.set_cons_succ])
      refine wpAnyH_take (i := 4) (v := .agg (qc zQ)) rfl (by kernel_rfl) (by kernel_rfl) (by kernel_rfl) (fun _ _ _ h => h) (Or.inl ⟨by rfl, fun w' hw' => by first | (go_simp; done) | (go_simp; rfl)⟩) (KS.out _ fz0) ?_
      (try simp only [Act.put, List.getElem_toArray, List.getElem_cons_zero, List.getElem_cons_succ, List.setIfInBounds_toArray, List.set_cons_zero, List.set_cons_succ])
      refine wpAnyH_take (i := 5) (v := .bool true) rfl (by kernel_rfl) (by kernel_rfl) (by kernel_rfl) (fun _ _ _ h => h) (Or.inl ⟨by rfl, fun w' _ => (exec_eqG w' _ zQ zQ rfl rfl).trans (by rw [(decide_eq_true (rfl : qi zQ = qi zQ))])⟩) (KS.out _ fz0) ?_
      (try simp only [Act.put, List.getElem_toArray, List.getElem_cons_zero, List.getElem_cons_succ, List.setIfInBounds_toArray, List.set_cons_zero, List.set_cons_succ])
      refine wpAnyH_take (i := 6) (v := .bool true) rfl (by kernel_rfl) (by kernel_rfl) (by kernel_rfl) (fun _ _ _ h => h) (Or.inl ⟨by rfl, fun w' hw' => by first | (go_simp; done) | (go_simp; rfl)⟩) (KS.out _ fz0) ?_
      (try simp only [Act.put, List.getElem_toArray, List.getElem_cons_zero, List.getElem_cons_succ, List.setIfInBounds_toArray, List.set_cons_zero, List.set_cons_succ])
      refine wpAnyH_take (i := 7) (v := .bool true) rfl (by kernel_rfl) (by kernel_rfl) (by kernel_rfl) (fun _ _ _ h => h) (Or.inl ⟨by rfl, fun w' hw' => by first | (go_simp; done) | (go_simp; rfl)⟩) (KS.out _ fz0) ?_
      (try simp only [Act.put, List.getElem_toArray, List.getElem_cons_zero, List.getElem_cons_succ, List.setIfInBounds_toArray, List.set_cons_zero, List.set_cons_succ])
      refine wpAnyH_take (i := 8) (v := .agg (qc s)) rfl (by kernel_rfl) (by kernel_rfl) (by kernel_rfl) (fun _ _ _ h => h) (yields_loadG (by rfl) rfl Try.req_str (fun _ h => h.1.1) rfl) (KS.out _ fz0) ?_
      (try simp only [Act.put, List.getElem_toArray, List.getElem_cons_zero, List.getElem_cons_succ, List.setIfInBounds_toArray, List.set_cons_zero, List.set_cons_succ])
      refine wpAnyH_all (rs := [9]) (by kernel_rfl) (by simp) (fun i hi => ?_)
      obtain rfl : i = 9 := by simpa using hi
      refine wpOp_step rfl (fun K hK => ?_)
      go_simp
      refine (KG.out _).mono ?_
      rintro e wz1 ⟨rfl, hfz1⟩
      have fz1 : Fr Nil _ _ := fz0.trans hfz1
      refine hK _ _ ⟨(KS.out _ fz1), ?_⟩
      clear hK K hi
      (try simp only [Act.put, List.getElem_toArray, List.getElem_cons_zero, List.getElem_cons_succ, List.setIfInBounds_toArray, List.set_cons_zero, List.set_cons_succ])
      refine wpAnyH_take (i := 10) (v := .bool false) rfl (by kernel_rfl) (by kernel_rfl) (by kernel_rfl) (fun _ _ _ h => h) (Or.inl ⟨by rfl, fun w' hw' => by first | (go_simp; done) | (go_simp; rfl)⟩) (KS.out _ fz1) ?_
      (try simp only [Act.put, List.getElem_toArray, List.getElem_cons_zero, List.getElem_cons_succ, List.setIfInBounds_toArray, List.set_cons_zero, List.set_cons_succ])
      refine wpAnyH_take (i := 11) (v := .bool false) rfl (by kernel_rfl) (by kernel_rfl) (by kernel_rfl) (fun _ _ _ h => h) (Or.inl ⟨by rfl, fun w' hw' => by first | (go_simp; done) | (go_simp; rfl)⟩) (KS.out _ fz1) ?_
      (try simp only [Act.put, List.getElem_toArray, List.getElem_cons_zero, List.getElem_cons_succ, List.setIfInBounds_toArray, List.set_cons_zero, List.set_cons_succ])
      refine wpAnyH_take (i := 12) (v := .agg (qc s)) rfl (by kernel_rfl) (by kernel_rfl) (by kernel_rfl) (fun _ _ _ h => h) (yields_loadG (by rfl) rfl Try.req_str (fun _ h => h.1.1) rfl) (KS.out _ fz1) ?_
      (try simp only [Act.put, List.getElem_toArray, List.getElem_cons_zero, List.getElem_cons_succ, List.setIfInBounds_toArray, List.set_cons_zero, List.set_cons_succ])
      refine wpAnyH_take (i := 15) (v := v0) rfl (by kernel_rfl) (by kernel_rfl) (by kernel_rfl) (fun _ _ _ h => h) (Or.inl ⟨by rfl, fun w' hw' => by first | (go_simp; done) | (go_simp; rfl)⟩) (KS.out _ fz1) ?_
      (try simp only [Act.put, List.getElem_toArray, List.getElem_cons_zero, List.getElem_cons_succ, List.setIfInBounds_toArray, List.set_cons_zero, List.set_cons_succ])
      refine wpAnyH_take (i := 16) (v := .string (strOfNums bs)) rfl (by kernel_rfl) (by kernel_rfl) (by kernel_rfl) (fun _ _ _ h => h) (Or.inl ⟨by rfl, fun w' hw' => by have he := HCV.out w' _ _ hw'.2; first | (go_simp; done) | (go_simp; rfl)⟩) (KS.out _ fz1) ?_
      (try simp only [Act.put, List.getElem_toArray, List.getElem_cons_zero, List.getElem_cons_succ, List.setIfInBounds_toArray, List.set_cons_zero, List.set_cons_succ])
      refine wpAnyH_all (rs := [13]) (by kernel_rfl) (by simp) (fun i hi => ?_)
      obtain rfl : i = 13 := by simpa using hi
      refine wpOp_step rfl (fun K hK => ?_)
      go_simp
      refine (KE.out _).mono ?_
      rintro e wz2 ⟨u6, rfl, hfz2, ho6⟩
      have fz2 : Fr Nil _ _ := fz1.trans hfz2
      have hcv6 := HCV.out _ _ _ (Sl.come (Own.sl EB_ok ho6))
      refine hK _ _ ⟨(KS.out _ fz2), ?_⟩
      clear hK K hi
      (try simp only [Act.put, List.getElem_toArray, List.getElem_cons_zero, List.getElem_cons_succ, List.setIfInBounds_toArray, List.set_cons_zero, List.set_cons_succ])
      refine wpAnyH_all (rs := [14]) (by kernel_rfl) (by simp) (fun i hi => ?_)
      obtain rfl : i = 14 := by simpa using hi
      refine wpOp_step rfl (fun K hK => ?_)
      go_simp
      refine hK _ _ ⟨(KS.out _ fz2), ?_⟩
      clear hK K hi
      (try simp only [Act.put, List.getElem_toArray, List.getElem_cons_zero, List.getElem_cons_succ, List.setIfInBounds_toArray, List.set_cons_zero, List.set_cons_succ])
      refine wpAnyH_take (i := 17) (v := .bool true) rfl (by kernel_rfl) (by kernel_rfl) (by kernel_rfl) (fun _ _ _ h => h) (Or.inl ⟨by rfl, fun w' hw' => by first | (go_simp; done) | (go_simp; rfl)⟩) (KS.out _ fz2) ?_
      (try simp only [Act.put, List.getElem_toArray, List.getElem_cons_zero, List.getElem_cons_succ, List.setIfInBounds_toArray, List.set_cons_zero, List.set_cons_succ])
      refine wpAnyH_take (i := 18) (v := .bool true) rfl (by kernel_rfl) (by kernel_rfl) (by kernel_rfl) (fun _ _ _ h => h) (Or.inl ⟨by rfl, fun w' hw' => by first | (go_simp; done) | (go_simp; rfl)⟩) (KS.out _ fz2) ?_
      (try simp only [Act.put, List.getElem_toArray, List.getElem_cons_zero, List.getElem_cons_succ, List.setIfInBounds_toArray, List.set_cons_zero, List.set_cons_succ])
      refine wpAnyH_take (i := 19) (v := .bool true) rfl (by kernel_rfl) (by kernel_rfl) (by kernel_rfl) (fun _ _ _ h => h) (Or.inl ⟨by rfl, fun w' hw' => by first | (go_simp; done) | (go_simp; rfl)⟩) (KS.out _ fz2) ?_
      (try simp only [Act.put, List.getElem_toArray, List.getElem_cons_zero, List.getElem_cons_succ, List.setIfInBounds_toArray, List.set_cons_zero, List.set_cons_succ])
      refine wpAnyH_take (i := 20) (v := .bool true) rfl (by kernel_rfl) (by kernel_rfl) (by kernel_rfl) (fun _ _ _ h => h) (Or.inl ⟨by rfl, fun w' hw' => by first | (go_simp; done) | (go_simp; rfl)⟩) (KS.out _ fz2) ?_
      (try simp only [Act.put, List.getElem_toArray, List.getElem_cons_zero, List.getElem_cons_succ, List.setIfInBounds_toArray, List.set_cons_zero, List.set_cons_succ])
      refine wpAnyH_all (rs := [21]) (by kernel_rfl) (by simp) (fun i hi => ?_)
      obtain rfl : i = 21 := by simpa using hi
      refine wpOp_step rfl (fun K hK => ?_)
      go_simp
      refine (KL.out _).mono ?_
      rintro e wz3 ⟨rfl, hfz3⟩
      have fz3 : Fr Nil _ _ := fz2.trans hfz3
      refine hK _ _ ⟨(KS.out _ fz3), ?_⟩
      clear hK K hi
      (try simp only [Act.put, List.getElem_toArray, List.getElem_cons_zero, List.getElem_cons_succ, List.setIfInBounds_toArray, List.set_cons_zero, List.set_cons_succ])
      refine wpAnyH_take (i := 22) (v := .bool true) rfl (by kernel_rfl) (by kernel_rfl) (by kernel_rfl) (fun _ _ _ h => h) (Or.inl ⟨by rfl, fun w' hw' => by first | (go_simp; done) | (go_simp; rfl)⟩) (KS.out _ fz3) ?_
      (try simp only [Act.put, List.getElem_toArray, List.getElem_cons_zero, List.getElem_cons_succ, List.setIfInBounds_toArray, List.set_cons_zero, List.set_cons_succ])
      refine wpAnyH_take (i := 23) (v := .bool true) rfl (by kernel_rfl) (by kernel_rfl) (by kernel_rfl) (fun _ _ _ h => h) (Or.inl ⟨by rfl, fun w' hw' => by first | (go_simp; done) | (go_simp; rfl)⟩) (KS.out _ fz3) ?_
      (try simp only [Act.put, List.getElem_toArray, List.getElem_cons_zero, List.getElem_cons_succ, List.setIfInBounds_toArray, List.set_cons_zero, List.set_cons_succ])
      refine wpAnyH_done (by kernel_rfl) ?_ _
      go_wp2_with fail
      go_ret
      exact ⟨rfl, HF5.out.trans fz3⟩
    · have KG := Lib.hid (fun W => (refgood_any W s).mono fun e w' h => (show e = .returned (.bool false) ∧ Fr Nil W w' from ⟨tells_no h.1 hg, h.2⟩))
      clear hg
      refine wp_region_held (S := fun w' => (Bk w' w.heap.size 36 (qc s) ∧ Bk w' m 36 (qc zQ)) ∧ Come EB w' v0 bs) (by kernel_rfl) ?_
      have fz0 : Fr Nil w5 w5.drew := (Fr.refl Nil w5).drew
      change wpAnyH _ _ _ _ _ _ _ _ (World.drew _)
      refine wpAnyH_take (i := 0) (v := .int .i64 8) rfl (by kernel_rfl) (by kernel_rfl) (by kernel_rfl) (fun _ _ _ h => h) (Or.inl ⟨by rfl, fun w' hw' => by first | (go_simp; done) | (go_simp; rfl)⟩) (KS.out _ fz0) ?_
      (try simp only [Act.put, List.getElem_toArray, List.getElem_cons_zero, List.getElem_cons_succ, List.setIfInBounds_toArray, List.set_cons_zero, List.set_cons_succ])
      refine wpAnyH_take (i := 1) (v := .bool true) rfl (by kernel_rfl) (by kernel_rfl) (by kernel_rfl) (fun _ _ _ h => h) (Or.inl ⟨by rfl, fun w' hw' => by first | (go_simp; done) | (go_simp; rfl)⟩) (KS.out _ fz0) ?_
      (try simp only [Act.put, List.getElem_toArray, List.getElem_cons_zero, List.getElem_cons_succ, List.setIfInBounds_toArray, List.set_cons_zero, List.set_cons_succ])
      refine wpAnyH_take (i := 2) (v := .bool true) rfl (by kernel_rfl) (by kernel_rfl) (by kernel_rfl) (fun _ _ _ h => h) (Or.inl ⟨by rfl, fun w' hw' => by first | (go_simp; done) | (go_simp; rfl)⟩) (KS.out _ fz0) ?_
      (try simp only [Act.put, List.getElem_toArray, List.getElem_cons_zero, List.getElem_cons_succ, List.setIfInBounds_toArray, List.set_cons_zero, List.set_cons_succ])
      refine wpAnyH_take (i := 3) (v := .agg (qc zQ)) rfl (by kernel_rfl) (by kernel_rfl) (by kernel_rfl) (fun _ _ _ h => h) (yields_loadG (by rfl) rfl Try.req_str (fun _ h => h.1.2) rfl) (KS.out _ fz0) ?_
      (try simp only [Act.put, List.getElem_toArray, List.getElem_cons_zero, List.getElem_cons_succ, List.setIfInBounds_toArray, List.set_cons_zero, List.set_cons_succ])
      refine wpAnyH_take (i := 4) (v := .agg (qc zQ)) rfl (by kernel_rfl) (by kernel_rfl) (by kernel_rfl) (fun _ _ _ h => h) (Or.inl ⟨by rfl, fun w' hw' => by first | (go_simp; done) | (go_simp; rfl)⟩) (KS.out _ fz0) ?_
      (try simp only [Act.put, List.getElem_toArray, List.getElem_cons_zero, List.getElem_cons_succ, List.setIfInBounds_toArray, List.set_cons_zero, List.set_cons_succ])
      refine wpAnyH_take (i := 5) (v := .bool true) rfl (by kernel_rfl) (by kernel_rfl) (by kernel_rfl) (fun _ _ _ h => h) (Or.inl ⟨by rfl, fun w' _ => (exec_eqG w' _ zQ zQ rfl rfl).trans (by rw [(decide_eq_true (rfl : qi zQ = qi zQ))])⟩) (KS.out _ fz0) ?_
      (try simp only [Act.put, List.getElem_toArray, List.getElem_cons_zero, List.getElem_cons_succ, List.setIfInBounds_toArray, List.set_cons_zero, List.set_cons_succ])
      refine wpAnyH_take (i := 6) (v := .bool true) rfl (by kernel_rfl) (by kernel_rfl) (by kernel_rfl) (fun _ _ _ h => h) (Or.inl ⟨by rfl, fun w' hw' => by first | (go_simp; done) | (go_simp; rfl)⟩) (KS.out _ fz0) ?_
      (try simp only [Act.put, List.getElem_toArray, List.getElem_cons_zero, List.getElem_cons_succ, List.setIfInBounds_toArray, List.set_cons_zero, List.set_cons_succ])
      refine wpAnyH_take (i := 7) (v := .bool true) rfl (by kernel_rfl) (by kernel_rfl) (by kernel_rfl) (fun _ _ _ h => h) (Or.inl ⟨by rfl, fun w' hw' => by first | (go_simp; done) | (go_simp; rfl)⟩) (KS.out _ fz0) ?_
      (try simp only [Act.put, List.getElem_toArray, List.getElem_cons_zero, List.getElem_cons_succ, List.setIfInBounds_toArray, List.set_cons_zero, List.set_cons_succ])
      refine wpAnyH_take (i := 8) (v := .agg (qc s)) rfl (by kernel_rfl) (by kernel_rfl) (by kernel_rfl) (fun _ _ _ h => h) (yields_loadG (by rfl) rfl Try.req_str (fun _ h => h.1.1) rfl) (KS.out _ fz0) ?_
      (try simp only [Act.put, List.getElem_toArray, List.getElem_cons_zero, List.getElem_cons_succ, List.setIfInBounds_toArray, List.set_cons_zero, List.set_cons_succ])
      refine wpAnyH_all (rs := [9]) (by kernel_rfl) (by simp) (fun i hi => ?_)
      obtain rfl : i = 9 := by simpa using hi
      refine wpOp_step rfl (fun K hK => ?_)
      go_simp
      refine (KG.out _).mono ?_
      rintro e wz1 ⟨rfl, hfz1⟩
      have fz1 : Fr Nil _ _ := fz0.trans hfz1
      refine hK _ _ ⟨(KS.out _ fz1), ?_⟩
      clear hK K hi
      (try simp only [Act.put, List.getElem_toArray, List.getElem_cons_zero, List.getElem_cons_succ, List.setIfInBounds_toArray, List.set_cons_zero, List.set_cons_succ])
      refine wpAnyH_take (i := 10) (v := .bool true) rfl (by kernel_rfl) (by kernel_rfl) (by kernel_rfl) (fun _ _ _ h => h) (Or.inl ⟨by rfl, fun w' hw' => by first | (go_simp; done) | (go_simp; rfl)⟩) (KS.out _ fz1) ?_
      (try simp only [Act.put, List.getElem_toArray, List.getElem_cons_zero, List.getElem_cons_succ, List.setIfInBounds_toArray, List.set_cons_zero, List.set_cons_succ])
      refine wpAnyH_take (i := 11) (v := .bool true) rfl (by kernel_rfl) (by kernel_rfl) (by kernel_rfl) (fun _ _ _ h => h) (Or.inl ⟨by rfl, fun w' hw' => by first | (go_simp; done) | (go_simp; rfl)⟩) (KS.out _ fz1) ?_
      (try simp only [Act.put, List.getElem_toArray, List.getElem_cons_zero, List.getElem_cons_succ, List.setIfInBounds_toArray, List.set_cons_zero, List.set_cons_succ])
      refine wpAnyH_take (i := 12) (v := undef) rfl (by kernel_rfl) (by kernel_rfl) (by kernel_rfl) (fun _ _ _ h => h) (Or.inr ⟨by rfl, rfl⟩) (KS.out _ fz1) ?_
      (try simp only [Act.put, List.getElem_toArray, List.getElem_cons_zero, List.getElem_cons_succ, List.setIfInBounds_toArray, List.set_cons_zero, List.set_cons_succ])
      refine wpAnyH_take (i := 13) (v := undef) rfl (by kernel_rfl) (by kernel_rfl) (by kernel_rfl) (fun _ _ _ h => h) (Or.inr ⟨by rfl, rfl⟩) (KS.out _ fz1) ?_
      (try simp only [Act.put, List.getElem_toArray, List.getElem_cons_zero, List.getElem_cons_succ, List.setIfInBounds_toArray, List.set_cons_zero, List.set_cons_succ])
      refine wpAnyH_take (i := 14) (v := undef) rfl (by kernel_rfl) (by kernel_rfl) (by kernel_rfl) (fun _ _ _ h => h) (Or.inr ⟨by rfl, rfl⟩) (KS.out _ fz1) ?_
      (try simp only [Act.put, List.getElem_toArray, List.getElem_cons_zero, List.getElem_cons_succ, List.setIfInBounds_toArray, List.set_cons_zero, List.set_cons_succ])
      refine wpAnyH_take (i := 15) (v := undef) rfl (by kernel_rfl) (by kernel_rfl) (by kernel_rfl) (fun _ _ _ h => h) (Or.inr ⟨by rfl, rfl⟩) (KS.out _ fz1) ?_
      (try simp only [Act.put, List.getElem_toArray, List.getElem_cons_zero, List.getElem_cons_succ, List.setIfInBounds_toArray, List.set_cons_zero, List.set_cons_succ])
      refine wpAnyH_take (i := 16) (v := undef) rfl (by kernel_rfl) (by kernel_rfl) (by kernel_rfl) (fun _ _ _ h => h) (Or.inr ⟨by rfl, rfl⟩) (KS.out _ fz1) ?_
      (try simp only [Act.put, List.getElem_toArray, List.getElem_cons_zero, List.getElem_cons_succ, List.setIfInBounds_toArray, List.set_cons_zero, List.set_cons_succ])
      refine wpAnyH_take (i := 17) (v := undef) rfl (by kernel_rfl) (by kernel_rfl) (by kernel_rfl) (fun _ _ _ h => h) (Or.inr ⟨by rfl, rfl⟩) (KS.out _ fz1) ?_
      (try simp only [Act.put, List.getElem_toArray, List.getElem_cons_zero, List.getElem_cons_succ, List.setIfInBounds_toArray, List.set_cons_zero, List.set_cons_succ])
      refine wpAnyH_take (i := 18) (v := .bool true) rfl (by kernel_rfl) (by kernel_rfl) (by kernel_rfl) (fun _ _ _ h => h) (Or.inl ⟨by rfl, fun w' hw' => by first | (go_simp; done) | (go_simp; rfl)⟩) (KS.out _ fz1) ?_
      (try simp only [Act.put, List.getElem_toArray, List.getElem_cons_zero, List.getElem_cons_succ, List.setIfInBounds_toArray, List.set_cons_zero, List.set_cons_succ])
      refine wpAnyH_take (i := 19) (v := .bool true) rfl (by kernel_rfl) (by kernel_rfl) (by kernel_rfl) (fun _ _ _ h => h) (Or.inl ⟨by rfl, fun w' hw' => by first | (go_simp; done) | (go_simp; rfl)⟩) (KS.out _ fz1) ?_
      (try simp only [Act.put, List.getElem_toArray, List.getElem_cons_zero, List.getElem_cons_succ, List.setIfInBounds_toArray, List.set_cons_zero, List.set_cons_succ])
      refine wpAnyH_take (i := 20) (v := .bool true) rfl (by kernel_rfl) (by kernel_rfl) (by kernel_rfl) (fun _ _ _ h => h) (Or.inl ⟨by rfl, fun w' hw' => by first | (go_simp; done) | (go_simp; rfl)⟩) (KS.out _ fz1) ?_
      (try simp only [Act.put, List.getElem_toArray, List.getElem_cons_zero, List.getElem_cons_succ, List.setIfInBounds_toArray, List.set_cons_zero, List.set_cons_succ])
      refine wpAnyH_all (rs := [21]) (by kernel_rfl) (by simp) (fun i hi => ?_)
      obtain rfl : i = 21 := by simpa using hi
      refine wpOp_step rfl (fun K hK => ?_)
      go_simp
      refine (KL.out _).mono ?_
      rintro e wz2 ⟨rfl, hfz2⟩
      have fz2 : Fr Nil _ _ := fz1.trans hfz2
      refine hK _ _ ⟨(KS.out _ fz2), ?_⟩
      clear hK K hi
      (try simp only [Act.put, List.getElem_toArray, List.getElem_cons_zero, List.getElem_cons_succ, List.setIfInBounds_toArray, List.set_cons_zero, List.set_cons_succ])
      refine wpAnyH_take (i := 22) (v := .bool true) rfl (by kernel_rfl) (by kernel_rfl) (by kernel_rfl) (fun _ _ _ h => h) (Or.inl ⟨by rfl, fun w' hw' => by first | (go_simp; done) | (go_simp; rfl)⟩) (KS.out _ fz2) ?_
      (try simp only [Act.put, List.getElem_toArray, List.getElem_cons_zero, List.getElem_cons_succ, List.setIfInBounds_toArray, List.set_cons_zero, List.set_cons_succ])
      refine wpAnyH_take (i := 23) (v := .bool true) rfl (by kernel_rfl) (by kernel_rfl) (by kernel_rfl) (fun _ _ _ h => h) (Or.inl ⟨by rfl, fun w' hw' => by first | (go_simp; done) | (go_simp; rfl)⟩) (KS.out _ fz2) ?_
      (try simp only [Act.put, List.getElem_toArray, List.getElem_cons_zero, List.getElem_cons_succ, List.setIfInBounds_toArray, List.set_cons_zero, List.set_cons_succ])
      refine wpAnyH_done (by kernel_rfl) ?_ _
      go_wp2_with fail
      go_ret
      exact ⟨rfl, HF5.out.trans fz2⟩
  | ok x =>
    have KD := Lib.hid (Decode_ok w3 (by have := hLb.out; omega) HBy.out HO3.out hd)
    obtain ⟨hgx, hqx, hex, hlx⟩ := dec_back HBy.out hd
    have KG := Lib.hid (fun W => (refgood_any W x).mono fun e w' h => (show e = .returned (.bool true) ∧ Fr Nil W w' from ⟨tells_yes h.1 hgx, h.2⟩))
    have KE := Lib.hid (fun W => refenc_any W x hgx hlx)
    rw [hex] at KE
    have KO := Lib.hid (fun W => refonly_any W x hgx)
    have HQ := Lib.hid (show decide (qi x = qi (onlyQ x)) = true from decide_eq_true hqx.symm)
    have hse := str_dec HBy.out HBy.out
    rw [decide_eq_true rfl] at hse
    clear hd hgx hqx hex hlx
    refine KD.out.mono ?_
    rintro e w4 ⟨rfl, hf4⟩
    have HF4 := Lib.hid ((HF3.out.trans hf4).alloc (.cells #[.int .i64 0, .int .i64 0, .int .i64 0, .int .i64 0, .int .i64 0, .int .i64 0, .int .i64 0, .int .i64 0, .int .i64 0, .int .i64 0, .int .i64 0, .int .i64 0, .int .i64 0, .int .i64 0, .int .i64 0, .int .i64 0, .int .i64 0, .int .i64 0] 36))
    have HX4 := Lib.hid (Bk.new w4 36 #[.int .i64 0, .int .i64 0, .int .i64 0, .int .i64 0, .int .i64 0, .int .i64 0, .int .i64 0, .int .i64 0, .int .i64 0, .int .i64 0, .int .i64 0, .int .i64 0, .int .i64 0, .int .i64 0, .int .i64 0, .int .i64 0, .int .i64 0, .int .i64 0])
    have HS4 := Lib.hid (HB3.out.fr hf4 id).lt
    clear hf4 KD
    go_upto_region 6 with (first
      | (with_reducible refine wpList_storeQ (x := .tmp 5) (y := .tmp 17) (q := x) ?_ ?_ HX4.out ?_ ?_); rfl; rfl; rfl; intro w5 hb5 hf5; have HX5 := Lib.hid hb5; have HF5 := Lib.hid (HF4.out.then hf5 (fun k hk hlt => by have := HS4.out; omega)); have HV5 := Lib.hid (HV.out.fr HF5.out); clear hb5 hf5)
    generalize w4.heap.size = m at *
    clear HX4 HF4 HB3 HF3 HO3 HB G0 HV HVw
    have KS := Lib.hid (fun W (h : Fr Nil w5 W) => (show Bk W m 36 (qc x) ∧ Come EB W v0 bs from ⟨HX5.out.fr h id, HV5.out.fr h⟩))
    refine wp_region_held (S := fun w' => Bk w' m 36 (qc x) ∧ Come EB w' v0 bs) (by kernel_rfl) ?_
    have fz0 : Fr Nil w5 w5.drew := (Fr.refl Nil w5).drew
    change wpAnyH _ _ _ _ _ _ _ _ (World.drew _)
    refine wpAnyH_take (i := 0) (v := .agg (qc x)) rfl (by kernel_rfl) (by kernel_rfl) (by kernel_rfl) (fun _ _ _ h => h) (yields_loadG (by rfl) rfl Try.req_str (fun _ h => h.1) rfl) (KS.out _ fz0) ?_
    (try simp only [Act.put, List.getElem_toArray, List.getElem_cons_zero, List.getElem_cons_succ, List.setIfInBounds_toArray, List.set_cons_zero, List.set_cons_succ])
    refine wpAnyH_all (rs := [1]) (by kernel_rfl) (by simp) (fun i hi => ?_)
    obtain rfl : i = 1 := by simpa using hi
    refine wpOp_step rfl (fun K hK => ?_)
    go_simp
    refine (KG.out _).mono ?_
    rintro e wz1 ⟨rfl, hfz1⟩
    have fz1 : Fr Nil _ _ := fz0.trans hfz1
    refine hK _ _ ⟨(KS.out _ fz1), ?_⟩
    clear hK K hi
    (try simp only [Act.put, List.getElem_toArray, List.getElem_cons_zero, List.getElem_cons_succ, List.setIfInBounds_toArray, List.set_cons_zero, List.set_cons_succ])
    refine wpAnyH_take (i := 2) (v := .bool true) rfl (by kernel_rfl) (by kernel_rfl) (by kernel_rfl) (fun _ _ _ h => h) (Or.inl ⟨by rfl, fun w' hw' => by first | (go_simp; done) | (go_simp; rfl)⟩) (KS.out _ fz1) ?_
    (try simp only [Act.put, List.getElem_toArray, List.getElem_cons_zero, List.getElem_cons_succ, List.setIfInBounds_toArray, List.set_cons_zero, List.set_cons_succ])
    refine wpAnyH_take (i := 3) (v := .agg (qc x)) rfl (by kernel_rfl) (by kernel_rfl) (by kernel_rfl) (fun _ _ _ h => h) (yields_loadG (by rfl) rfl Try.req_str (fun _ h => h.1) rfl) (KS.out _ fz1) ?_
    (try simp only [Act.put, List.getElem_toArray, List.getElem_cons_zero, List.getElem_cons_succ, List.setIfInBounds_toArray, List.set_cons_zero, List.set_cons_succ])
    refine wpAnyH_take (i := 4) (v := .agg (qc x)) rfl (by kernel_rfl) (by kernel_rfl) (by kernel_rfl) (fun _ _ _ h => h) (yields_loadG (by rfl) rfl Try.req_str (fun _ h => h.1) rfl) (KS.out _ fz1) ?_
    (try simp only [Act.put, List.getElem_toArray, List.getElem_cons_zero, List.getElem_cons_succ, List.setIfInBounds_toArray, List.set_cons_zero, List.set_cons_succ])
    refine wpAnyH_all (rs := [5]) (by kernel_rfl) (by simp) (fun i hi => ?_)
    obtain rfl : i = 5 := by simpa using hi
    refine wpOp_step rfl (fun K hK => ?_)
    go_simp
    refine (KO.out _).mono ?_
    rintro e wz2 ⟨rfl, hfz2⟩
    have fz2 : Fr Nil _ _ := fz1.trans hfz2
    refine hK _ _ ⟨(KS.out _ fz2), ?_⟩
    clear hK K hi
    (try simp only [Act.put, List.getElem_toArray, List.getElem_cons_zero, List.getElem_cons_succ, List.setIfInBounds_toArray, List.set_cons_zero, List.set_cons_succ])
    refine wpAnyH_take (i := 6) (v := .bool true) rfl (by kernel_rfl) (by kernel_rfl) (by kernel_rfl) (fun _ _ _ h => h) (Or.inl ⟨by rfl, fun w' _ => (exec_eqG w' _ x (onlyQ x) rfl rfl).trans (by rw [HQ.out])⟩) (KS.out _ fz2) ?_
    (try simp only [Act.put, List.getElem_toArray, List.getElem_cons_zero, List.getElem_cons_succ, List.setIfInBounds_toArray, List.set_cons_zero, List.set_cons_succ])
    refine wpAnyH_take (i := 7) (v := .bool true) rfl (by kernel_rfl) (by kernel_rfl) (by kernel_rfl) (fun _ _ _ h => h) (Or.inl ⟨by rfl, fun w' hw' => by first | (go_simp; done) | (go_simp; rfl)⟩) (KS.out _ fz2) ?_
    (try simp only [Act.put, List.getElem_toArray, List.getElem_cons_zero, List.getElem_cons_succ, List.setIfInBounds_toArray, List.set_cons_zero, List.set_cons_succ])
    refine wpAnyH_take (i := 8) (v := .bool true) rfl (by kernel_rfl) (by kernel_rfl) (by kernel_rfl) (fun _ _ _ h => h) (Or.inl ⟨by rfl, fun w' hw' => by first | (go_simp; done) | (go_simp; rfl)⟩) (KS.out _ fz2) ?_
    (try simp only [Act.put, List.getElem_toArray, List.getElem_cons_zero, List.getElem_cons_succ, List.setIfInBounds_toArray, List.set_cons_zero, List.set_cons_succ])
    refine wpAnyH_take (i := 9) (v := .agg (qc x)) rfl (by kernel_rfl) (by kernel_rfl) (by kernel_rfl) (fun _ _ _ h => h) (yields_loadG (by rfl) rfl Try.req_str (fun _ h => h.1) rfl) (KS.out _ fz2) ?_
    (try simp only [Act.put, List.getElem_toArray, List.getElem_cons_zero, List.getElem_cons_succ, List.setIfInBounds_toArray, List.set_cons_zero, List.set_cons_succ])
    refine wpAnyH_take (i := 12) (v := v0) rfl (by kernel_rfl) (by kernel_rfl) (by kernel_rfl) (fun _ _ _ h => h) (Or.inl ⟨by rfl, fun w' hw' => by first | (go_simp; done) | (go_simp; rfl)⟩) (KS.out _ fz2) ?_
    (try simp only [Act.put, List.getElem_toArray, List.getElem_cons_zero, List.getElem_cons_succ, List.setIfInBounds_toArray, List.set_cons_zero, List.set_cons_succ])
    refine wpAnyH_take (i := 13) (v := .string (strOfNums bs)) rfl (by kernel_rfl) (by kernel_rfl) (by kernel_rfl) (fun _ _ _ h => h) (Or.inl ⟨by rfl, fun w' hw' => by have he := HCV.out w' _ _ hw'.2; first | (go_simp; done) | (go_simp; rfl)⟩) (KS.out _ fz2) ?_
    (try simp only [Act.put, List.getElem_toArray, List.getElem_cons_zero, List.getElem_cons_succ, List.setIfInBounds_toArray, List.set_cons_zero, List.set_cons_succ])
    refine wpAnyH_all (rs := [10]) (by kernel_rfl) (by simp) (fun i hi => ?_)
    obtain rfl : i = 10 := by simpa using hi
    refine wpOp_step rfl (fun K hK => ?_)
    go_simp
    refine (KE.out _).mono ?_
    rintro e wz3 ⟨u6, rfl, hfz3, ho6⟩
    have fz3 : Fr Nil _ _ := fz2.trans hfz3
    have hcv6 := HCV.out _ _ _ (Sl.come (Own.sl EB_ok ho6))
    refine hK _ _ ⟨(KS.out _ fz3), ?_⟩
    clear hK K hi
    (try simp only [Act.put, List.getElem_toArray, List.getElem_cons_zero, List.getElem_cons_succ, List.setIfInBounds_toArray, List.set_cons_zero, List.set_cons_succ])
    refine wpAnyH_all (rs := [11]) (by kernel_rfl) (by simp) (fun i hi => ?_)
    obtain rfl : i = 11 := by simpa using hi
    refine wpOp_step rfl (fun K hK => ?_)
    go_simp
    refine hK _ _ ⟨(KS.out _ fz3), ?_⟩
    clear hK K hi
    (try simp only [Act.put, List.getElem_toArray, List.getElem_cons_zero, List.getElem_cons_succ, List.setIfInBounds_toArray, List.set_cons_zero, List.set_cons_succ])
    refine wpAnyH_take (i := 14) (v := .bool true) rfl (by kernel_rfl) (by kernel_rfl) (by kernel_rfl) (fun _ _ _ h => h) (Or.inl ⟨by rfl, fun w' hw' => by first | (go_simp; done) | (go_simp; rfl)⟩) (KS.out _ fz3) ?_
    (try simp only [Act.put, List.getElem_toArray, List.getElem_cons_zero, List.getElem_cons_succ, List.setIfInBounds_toArray, List.set_cons_zero, List.set_cons_succ])
    refine wpAnyH_take (i := 15) (v := .bool true) rfl (by kernel_rfl) (by kernel_rfl) (by kernel_rfl) (fun _ _ _ h => h) (Or.inl ⟨by rfl, fun w' hw' => by first | (go_simp; done) | (go_simp; rfl)⟩) (KS.out _ fz3) ?_
    (try simp only [Act.put, List.getElem_toArray, List.getElem_cons_zero, List.getElem_cons_succ, List.setIfInBounds_toArray, List.set_cons_zero, List.set_cons_succ])
    refine wpAnyH_take (i := 16) (v := .bool true) rfl (by kernel_rfl) (by kernel_rfl) (by kernel_rfl) (fun _ _ _ h => h) (Or.inl ⟨by rfl, fun w' hw' => by first | (go_simp; done) | (go_simp; rfl)⟩) (KS.out _ fz3) ?_
    (try simp only [Act.put, List.getElem_toArray, List.getElem_cons_zero, List.getElem_cons_succ, List.setIfInBounds_toArray, List.set_cons_zero, List.set_cons_succ])
    refine wpAnyH_all (rs := [17]) (by kernel_rfl) (by simp) (fun i hi => ?_)
    obtain rfl : i = 17 := by simpa using hi
    refine wpOp_step rfl (fun K hK => ?_)
    go_simp
    refine (KL.out _).mono ?_
    rintro e wz4 ⟨rfl, hfz4⟩
    have fz4 : Fr Nil _ _ := fz3.trans hfz4
    refine hK _ _ ⟨(KS.out _ fz4), ?_⟩
    clear hK K hi
    (try simp only [Act.put, List.getElem_toArray, List.getElem_cons_zero, List.getElem_cons_succ, List.setIfInBounds_toArray, List.set_cons_zero, List.set_cons_succ])
    refine wpAnyH_take (i := 18) (v := .bool true) rfl (by kernel_rfl) (by kernel_rfl) (by kernel_rfl) (fun _ _ _ h => h) (Or.inl ⟨by rfl, fun w' hw' => by first | (go_simp; done) | (go_simp; rfl)⟩) (KS.out _ fz4) ?_
    (try simp only [Act.put, List.getElem_toArray, List.getElem_cons_zero, List.getElem_cons_succ, List.setIfInBounds_toArray, List.set_cons_zero, List.set_cons_succ])
    refine wpAnyH_take (i := 19) (v := .bool true) rfl (by kernel_rfl) (by kernel_rfl) (by kernel_rfl) (fun _ _ _ h => h) (Or.inl ⟨by rfl, fun w' hw' => by first | (go_simp; done) | (go_simp; rfl)⟩) (KS.out _ fz4) ?_
    (try simp only [Act.put, List.getElem_toArray, List.getElem_cons_zero, List.getElem_cons_succ, List.setIfInBounds_toArray, List.set_cons_zero, List.set_cons_succ])
    refine wpAnyH_done (by kernel_rfl) ?_ _
    go_wp2_with fail
    go_ret
    exact ⟨rfl, HF5.out.trans fz4⟩
set_option maxRecDepth 100000 in
set_option maxHeartbeats 8000000 in
theorem reads_big (w : World) (b0 : List Int) (s : Rq) (v : Value) (hl : b0.length ≤ maxLen) (hb0 : Bytes b0) (hv : Come EB w v b0) (ls : Long s) (hbig' : (100 : Int) < b0.length) :
    Calls Try.prog 3 #[v, .agg (qc s)] w fun e w' => e = .returned (.bool true) ∧ Fr Nil w w' := by
  have hbig : (100 : Int) < b0.length := hbig'
  have hl100 : (b0.take 100).length ≤ 100 := by rw [List.length_take]; omega
  have HBy := Lib.hid (hb0.take 100)
  have hlm : (b0.length : Int) ≤ 9223372036854775807 := by unfold maxLen at hl; omega
  have HB := Lib.hid (Bk.new w 36 (qc s))
  have G0 := Lib.hid ((Fr.refl Nil w).alloc (.cells (qc s) 36))
  have LS := Lib.hid ls
  clear ls
  have hvs : ∃ a c, v = .slice (some a) b0.length c := by
    rcases hv with ⟨_, rfl⟩ | ⟨a, c, rfl, _⟩
    · simp at hbig
    · exact ⟨a, c, rfl⟩
  obtain ⟨Av, cv, rfl⟩ := hvs
  have HV := Lib.hid (hv.take EB_ok 100 (by omega))
  have h100c : (100 : Int) ≤ cv := by
    rcases hv with ⟨h, _⟩ | ⟨a, c, h, hc, _⟩
    · cases h
    · cases h; omega
  clear hl hv
  go_enter Try.func3, Try.ntmps3
  go_upto_region 3 with fail
  generalize hv0 : Value.slice (some Av) 100 cv = v0 at HV ⊢
  clear hv0 hlm
  generalize List.take 100 b0 = bs at *
  clear hbig hbig'
  have hLb := Lib.hid hl100
  clear hl100
  have HCV := Lib.hid (fun W (u : Value) (l : List Int) (h : Come EB W u l) => conv_any W h)
  have KL := Lib.hid (fun W => lives_true W)
  have HVw := Lib.hid (HV.out.fr (G0.out.alloc (.cells #[] 5)))
  go_wp2_with (at_builtin; refine wpList_app EB_ok rfl (.tmp 13) (.tmp 14) 22 rfl rfl (w.heap.size + 1) _ _ [] bs rfl (Own.made (by simp) (by simp)) rfl HVw.out (by have := hLb.out; simp; omega) (by simp) ?_; intro v3 w3 o1' o2 o3 o4; have o1 : Own EB w3 (w.heap.size + 1) v3 bs := o1'; have HF3 := Lib.hid ((G0.out.alloc (.cells #[] 5)).then o2 (fun i hi hlt => by have := of_made hi; omega)); have HB3 := Lib.hid ((HB.out.alloc (.cells #[] 5)).fr o2 (fun hi => by have := of_made hi; omega)); have HO3 := Lib.hid (o1.sl EB_ok); clear o1 o1' o2 o3 o4)
  cases hd : CodecD.dec bs with
  | error xc =>
    obtain ⟨xx, cc⟩ := xc
    have KD := Lib.hid (Decode_bad w3 (by have := hLb.out; omega) HBy.out HO3.out hd)
    have HNo := Lib.hid (show GoodQ s → encB s ≠ bs from fun hg he => by rw [← he, dec_enc hg LS.out] at hd; cases hd)
    clear hd
    refine KD.out.mono ?_
    rintro e w4 ⟨rfl, hf4⟩
    have HF4 := Lib.hid ((HF3.out.trans hf4).alloc (.cells #[.int .i64 0, .int .i64 0, .int .i64 0, .int .i64 0, .int .i64 0, .int .i64 0, .int .i64 0, .int .i64 0, .int .i64 0, .int .i64 0, .int .i64 0, .int .i64 0, .int .i64 0, .int .i64 0, .int .i64 0, .int .i64 0, .int .i64 0, .int .i64 0] 36))
    have HB4 := Lib.hid ((HB3.out.fr hf4 id).alloc (.cells #[.int .i64 0, .int .i64 0, .int .i64 0, .int .i64 0, .int .i64 0, .int .i64 0, .int .i64 0, .int .i64 0, .int .i64 0, .int .i64 0, .int .i64 0, .int .i64 0, .int .i64 0, .int .i64 0, .int .i64 0, .int .i64 0, .int .i64 0, .int .i64 0] 36))
    have HX4 := Lib.hid (Bk.new w4 36 #[.int .i64 0, .int .i64 0, .int .i64 0, .int .i64 0, .int .i64 0, .int .i64 0, .int .i64 0, .int .i64 0, .int .i64 0, .int .i64 0, .int .i64 0, .int .i64 0, .int .i64 0, .int .i64 0, .int .i64 0, .int .i64 0, .int .i64 0, .int .i64 0])
    have HS4 := Lib.hid (HB3.out.fr hf4 id).lt
    clear hf4 KD
    go_upto_region 5 with (first
      | (with_reducible refine wpList_storeQ (x := .tmp 5) (y := .tmp 17) (q := zQ) ?_ ?_ HX4.out ?_ ?_); rfl; rfl; rfl; intro w5 hb5 hf5; have HX5 := Lib.hid hb5; have HB5 := Lib.hid (HB4.out.fr hf5 (by have := HS4.out; omega)); have HF5 := Lib.hid (HF4.out.then hf5 (fun k hk hlt => by have := HS4.out; omega)); have HV5 := Lib.hid (HV.out.fr HF5.out); clear hb5 hf5)
    generalize w4.heap.size = m at *
    clear HX4 HB4 HF4 HB3 HF3 HO3 HB G0 HV HVw
    have KS := Lib.hid (fun W (h : Fr Nil w5 W) => (show (Bk W w.heap.size 36 (qc s) ∧ Bk W m 36 (qc zQ)) ∧ Come EB W v0 bs from ⟨⟨HB5.out.fr h id, HX5.out.fr h id⟩, HV5.out.fr h⟩))
    by_cases hg : GoodQ s
    · have KG := Lib.hid (fun W => (refgood_any W s).mono fun e w' h => (show e = .returned (.bool true) ∧ Fr Nil W w' from ⟨tells_yes h.1 hg, h.2⟩))
      have KE := Lib.hid (fun W => refenc_any W s hg LS.out)
      have hse := str_dec (enc_bytes hg) HBy.out
      rw [decide_eq_false (HNo.out hg)] at hse
      clear hg
      refine wp_region_held (S := fun w' => (Bk w' w.heap.size 36 (qc s) ∧ Bk w' m 36 (qc zQ)) ∧ Come EB w' v0 bs) (by kernel_rfl) ?_
      have fz0 : Fr Nil w5 w5.drew := (Fr.refl Nil w5).drew
      change wpAnyH _ _ _ _ _ _ _ _ (World.drew _)
      refine wpAnyH_take (i := 0) (v := .int .i64 8) rfl (by kernel_rfl) (by kernel_rfl) (by kernel_rfl) (fun _ _ _ h => h) (Or.inl ⟨by rfl, fun w' hw' => by first | (go_simp; done) | (go_simp; rfl)⟩) (KS.out _ fz0) ?_
      (try simp only [Act.put, List.getElem_toArray, List.getElem_cons_zero, List.getElem_cons_succ, List.setIfInBounds_toArray, List.set_cons_zero, List.set_cons_succ])
      refine wpAnyH_take (i := 1) (v := .bool true) rfl (by kernel_rfl) (by kernel_rfl) (by kernel_rfl) (fun _ _ _ h => h) (Or.inl ⟨by rfl, fun w' hw' => by first | (go_simp; done) | (go_simp; rfl)⟩) (KS.out _ fz0) ?_
      (try simp only [Act.put, List.getElem_toArray, List.getElem_cons_zero, List.getElem_cons_succ, List.setIfInBounds_toArray, List.set_cons_zero, List.set_cons_succ])
      refine wpAnyH_take (i := 2) (v := .bool true) rfl (by kernel_rfl) (by kernel_rfl) (by kernel_rfl) (fun _ _ _ h => h) (Or.inl ⟨by rfl, fun w' hw' => by first | (go_simp; done) | (go_simp; rfl)⟩) (KS.out _ fz0) ?_
      (try simp only [Act.put, List.getElem_toArray, List.getElem_cons_zero, List.getElem_cons_succ, List.setIfInBounds_toArray, List.set_cons_zero, List.set_cons_succ])
      refine wpAnyH_take (i := 3) (v := .agg (qc zQ)) rfl (by kernel_rfl) (by kernel_rfl) (by kernel_rfl) (fun _ _ _ h => h) (yields_loadG (by rfl) rfl Try.req_str (fun _ h => h.1.2) rfl) (KS.out _ fz0) ?_
      (try simp only [Act.put, List.getElem_toArray, List.getElem_cons_zero, List.getElem_cons_succ, List.setIfInBounds_toArray, List.set_cons_zero, List.set_cons_succ])
      refine wpAnyH_take (i := 4) (v := .agg (qc zQ)) rfl (by kernel_rfl) (by kernel_rfl) (by kernel_rfl) (fun _ _ _ h => h) (Or.inl ⟨by rfl, fun w' hw' => by first | (go_simp; done) | (go_simp; rfl)⟩) (KS.out _ fz0) ?_
      (try simp only [Act.put, List.getElem_toArray, List.getElem_cons_zero, List.getElem_cons_succ, List.setIfInBounds_toArray, List.set_cons_zero, List.set_cons_succ])
      refine wpAnyH_take (i := 5) (v := .bool true) rfl (by kernel_rfl) (by kernel_rfl) (by kernel_rfl) (fun _ _ _ h => h) (Or.inl ⟨by rfl, fun w' _ => (exec_eqG w' _ zQ zQ rfl rfl).trans (by rw [(decide_eq_true (rfl : qi zQ = qi zQ))])⟩) (KS.out _ fz0) ?_
      (try simp only [Act.put, List.getElem_toArray, List.getElem_cons_zero, List.getElem_cons_succ, List.setIfInBounds_toArray, List.set_cons_zero, List.set_cons_succ])
      refine wpAnyH_take (i := 6) (v := .bool true) rfl (by kernel_rfl) (by kernel_rfl) (by kernel_rfl) (fun _ _ _ h => h) (Or.inl ⟨by rfl, fun w' hw' => by first | (go_simp; done) | (go_simp; rfl)⟩) (KS.out _ fz0) ?_
      (try simp only [Act.put, List.getElem_toArray, List.getElem_cons_zero, List.getElem_cons_succ, List.setIfInBounds_toArray, List.set_cons_zero, List.set_cons_succ])
      refine wpAnyH_take (i := 7) (v := .bool true) rfl (by kernel_rfl) (by kernel_rfl) (by kernel_rfl) (fun _ _ _ h => h) (Or.inl ⟨by rfl, fun w' hw' => by first | (go_simp; done) | (go_simp; rfl)⟩) (KS.out _ fz0) ?_
      (try simp only [Act.put, List.getElem_toArray, List.getElem_cons_zero, List.getElem_cons_succ, List.setIfInBounds_toArray, List.set_cons_zero, List.set_cons_succ])
      refine wpAnyH_take (i := 8) (v := .agg (qc s)) rfl (by kernel_rfl) (by kernel_rfl) (by kernel_rfl) (fun _ _ _ h => h) (yields_loadG (by rfl) rfl Try.req_str (fun _ h => h.1.1) rfl) (KS.out _ fz0) ?_
      (try simp only [Act.put, List.getElem_toArray, List.getElem_cons_zero, List.getElem_cons_succ, List.setIfInBounds_toArray, List.set_cons_zero, List.set_cons_succ])
      refine wpAnyH_all (rs := [9]) (by kernel_rfl) (by simp) (fun i hi => ?_)
      obtain rfl : i = 9 := by simpa using hi
      refine wpOp_step rfl (fun K hK => ?_)
      go_simp
      refine (KG.out _).mono ?_
      rintro e wz1 ⟨rfl, hfz1⟩
      have fz1 : Fr Nil _ _ := fz0.trans hfz1
      refine hK _ _ ⟨(KS.out _ fz1), ?_⟩
      clear hK K hi
      (try simp only [Act.put, List.getElem_toArray, List.getElem_cons_zero, List.getElem_cons_succ, List.setIfInBounds_toArray, List.set_cons_zero, List.set_cons_succ])
      refine wpAnyH_take (i := 10) (v := .bool false) rfl (by kernel_rfl) (by kernel_rfl) (by kernel_rfl) (fun _ _ _ h => h) (Or.inl ⟨by rfl, fun w' hw' => by first | (go_simp; done) | (go_simp; rfl)⟩) (KS.out _ fz1) ?_
      (try simp only [Act.put, List.getElem_toArray, List.getElem_cons_zero, List.getElem_cons_succ, List.setIfInBounds_toArray, List.set_cons_zero, List.set_cons_succ])
      refine wpAnyH_take (i := 11) (v := .bool false) rfl (by kernel_rfl) (by kernel_rfl) (by kernel_rfl) (fun _ _ _ h => h) (Or.inl ⟨by rfl, fun w' hw' => by first | (go_simp; done) | (go_simp; rfl)⟩) (KS.out _ fz1) ?_
      (try simp only [Act.put, List.getElem_toArray, List.getElem_cons_zero, List.getElem_cons_succ, List.setIfInBounds_toArray, List.set_cons_zero, List.set_cons_succ])
      refine wpAnyH_take (i := 12) (v := .agg (qc s)) rfl (by kernel_rfl) (by kernel_rfl) (by kernel_rfl) (fun _ _ _ h => h) (yields_loadG (by rfl) rfl Try.req_str (fun _ h => h.1.1) rfl) (KS.out _ fz1) ?_
      (try simp only [Act.put, List.getElem_toArray, List.getElem_cons_zero, List.getElem_cons_succ, List.setIfInBounds_toArray, List.set_cons_zero, List.set_cons_succ])
      refine wpAnyH_take (i := 15) (v := v0) rfl (by kernel_rfl) (by kernel_rfl) (by kernel_rfl) (fun _ _ _ h => h) (Or.inl ⟨by rfl, fun w' hw' => by first | (go_simp; done) | (go_simp; rfl)⟩) (KS.out _ fz1) ?_
      (try simp only [Act.put, List.getElem_toArray, List.getElem_cons_zero, List.getElem_cons_succ, List.setIfInBounds_toArray, List.set_cons_zero, List.set_cons_succ])
      refine wpAnyH_take (i := 16) (v := .string (strOfNums bs)) rfl (by kernel_rfl) (by kernel_rfl) (by kernel_rfl) (fun _ _ _ h => h) (Or.inl ⟨by rfl, fun w' hw' => by have he := HCV.out w' _ _ hw'.2; first | (go_simp; done) | (go_simp; rfl)⟩) (KS.out _ fz1) ?_
      (try simp only [Act.put, List.getElem_toArray, List.getElem_cons_zero, List.getElem_cons_succ, List.setIfInBounds_toArray, List.set_cons_zero, List.set_cons_succ])
      refine wpAnyH_all (rs := [13]) (by kernel_rfl) (by simp) (fun i hi => ?_)
      obtain rfl : i = 13 := by simpa using hi
      refine wpOp_step rfl (fun K hK => ?_)
      go_simp
      refine (KE.out _).mono ?_
      rintro e wz2 ⟨u6, rfl, hfz2, ho6⟩
      have fz2 : Fr Nil _ _ := fz1.trans hfz2
      have hcv6 := HCV.out _ _ _ (Sl.come (Own.sl EB_ok ho6))
      refine hK _ _ ⟨(KS.out _ fz2), ?_⟩
      clear hK K hi
      (try simp only [Act.put, List.getElem_toArray, List.getElem_cons_zero, List.getElem_cons_succ, List.setIfInBounds_toArray, List.set_cons_zero, List.set_cons_succ])
      refine wpAnyH_all (rs := [14]) (by kernel_rfl) (by simp) (fun i hi => ?_)
      obtain rfl : i = 14 := by simpa using hi
      refine wpOp_step rfl (fun K hK => ?_)
      go_simp
      refine hK _ _ ⟨(KS.out _ fz2), ?_⟩
      clear hK K hi
      (try simp only [Act.put, List.getElem_toArray, List.getElem_cons_zero, List.getElem_cons_succ, List.setIfInBounds_toArray, List.set_cons_zero, List.set_cons_succ])
      refine wpAnyH_take (i := 17) (v := .bool true) rfl (by kernel_rfl) (by kernel_rfl) (by kernel_rfl) (fun _ _ _ h => h) (Or.inl ⟨by rfl, fun w' hw' => by first | (go_simp; done) | (go_simp; rfl)⟩) (KS.out _ fz2) ?_
      (try simp only [Act.put, List.getElem_toArray, List.getElem_cons_zero, List.getElem_cons_succ, List.setIfInBounds_toArray, List.set_cons_zero, List.set_cons_succ])
      refine wpAnyH_take (i := 18) (v := .bool true) rfl (by kernel_rfl) (by kernel_rfl) (by kernel_rfl) (fun _ _ _ h => h) (Or.inl ⟨by rfl, fun w' hw' => by first | (go_simp; done) | (go_simp; rfl)⟩) (KS.out _ fz2) ?_
      (try simp only [Act.put, List.getElem_toArray, List.getElem_cons_zero, List.getElem_cons_succ, List.setIfInBounds_toArray, List.set_cons_zero, List.set_cons_succ])
      refine wpAnyH_take (i := 19) (v := .bool true) rfl (by kernel_rfl) (by kernel_rfl) (by kernel_rfl) (fun _ _ _ h => h) (Or.inl ⟨by rfl, fun w' hw' => by first | (go_simp; done) | (go_simp; rfl)⟩) (KS.out _ fz2) ?_
      (try simp only [Act.put, List.getElem_toArray, List.getElem_cons_zero, List.getElem_cons_succ, List.setIfInBounds_toArray, List.set_cons_zero, List.set_cons_succ])
      refine wpAnyH_take (i := 20) (v := .bool true) rfl (by kernel_rfl) (by kernel_rfl) (by kernel_rfl) (fun _ _ _ h => h) (Or.inl ⟨by rfl, fun w' hw' => by first | (go_simp; done) | (go_simp; rfl)⟩) (KS.out _ fz2) ?_
      (try simp only [Act.put, List.getElem_toArray, List.getElem_cons_zero, List.getElem_cons_succ, List.setIfInBounds_toArray, List.set_cons_zero, List.set_cons_succ])
      refine wpAnyH_all (rs := [21]) (by kernel_rfl) (by simp) (fun i hi => ?_)
      obtain rfl : i = 21 := by simpa using hi
      refine wpOp_step rfl (fun K hK => ?_)
      go_simp
      refine (KL.out _).mono ?_
      rintro e wz3 ⟨rfl, hfz3⟩
      have fz3 : Fr Nil _ _ := fz2.trans hfz3
      refine hK _ _ ⟨(KS.out _ fz3), ?_⟩
      clear hK K hi
      (try simp only [Act.put, List.getElem_toArray, List.getElem_cons_zero, List.getElem_cons_succ, List.setIfInBounds_toArray, List.set_cons_zero, List.set_cons_succ])
      refine wpAnyH_take (i := 22) (v := .bool true) rfl (by kernel_rfl) (by kernel_rfl) (by kernel_rfl) (fun _ _ _ h => h) (Or.inl ⟨by rfl, fun w' hw' => by first | (go_simp; done) | (go_simp; rfl)⟩) (KS.out _ fz3) ?_
      (try simp only [Act.put, List.getElem_toArray, List.getElem_cons_zero, List.getElem_cons_succ, List.setIfInBounds_toArray, List.set_cons_zero, List.set_cons_succ])
      refine wpAnyH_take (i := 23) (v := .bool true) rfl (by kernel_rfl) (by kernel_rfl) (by kernel_rfl) (fun _ _ _ h => h) (Or.inl ⟨by rfl, fun w' hw' => by first | (go_simp; done) | (go_simp; rfl)⟩) (KS.out _ fz3) ?_
      (try simp only [Act.put, List.getElem_toArray, List.getElem_cons_zero, List.getElem_cons_succ, List.setIfInBounds_toArray, List.set_cons_zero, List.set_cons_succ])
      refine wpAnyH_done (by kernel_rfl) ?_ _
      go_wp2_with fail
      go_ret
      exact ⟨rfl, HF5.out.trans fz3⟩
    · have KG := Lib.hid (fun W => (refgood_any W s).mono fun e w' h => (show e = .returned (.bool false) ∧ Fr Nil W w' from ⟨tells_no h.1 hg, h.2⟩))
      clear hg
      refine wp_region_held (S := fun w' => (Bk w' w.heap.size 36 (qc s) ∧ Bk w' m 36 (qc zQ)) ∧ Come EB w' v0 bs) (by kernel_rfl) ?_
      have fz0 : Fr Nil w5 w5.drew := (Fr.refl Nil w5).drew
      change wpAnyH _ _ _ _ _ _ _ _ (World.drew _)
      refine wpAnyH_take (i := 0) (v := .int .i64 8) rfl (by kernel_rfl) (by kernel_rfl) (by kernel_rfl) (fun _ _ _ h => h) (Or.inl ⟨by rfl, fun w' hw' => by first | (go_simp; done) | (go_simp; rfl)⟩) (KS.out _ fz0) ?_
      (try simp only [Act.put, List.getElem_toArray, List.getElem_cons_zero, List.getElem_cons_succ, List.setIfInBounds_toArray, List.set_cons_zero, List.set_cons_succ])
      refine wpAnyH_take (i := 1) (v := .bool true) rfl (by kernel_rfl) (by kernel_rfl) (by kernel_rfl) (fun _ _ _ h => h) (Or.inl ⟨by rfl, fun w' hw' => by first | (go_simp; done) | (go_simp; rfl)⟩) (KS.out _ fz0) ?_
      (try simp only [Act.put, List.getElem_toArray, List.getElem_cons_zero, List.getElem_cons_succ, List.setIfInBounds_toArray, List.set_cons_zero, List.set_cons_succ])
      refine wpAnyH_take (i := 2) (v := .bool true) rfl (by kernel_rfl) (by kernel_rfl) (by kernel_rfl) (fun _ _ _ h => h) (Or.inl ⟨by rfl, fun w' hw' => by first | (go_simp; done) | (go_simp; rfl)⟩) (KS.out _ fz0) ?_
      (try simp only [Act.put, List.getElem_toArray, List.getElem_cons_zero, List.getElem_cons_succ, List.setIfInBounds_toArray, List.set_cons_zero, List.set_cons_succ])
      refine wpAnyH_take (i := 3) (v := .agg (qc zQ)) rfl (by kernel_rfl) (by kernel_rfl) (by kernel_rfl) (fun _ _ _ h => h) (yields_loadG (by rfl) rfl Try.req_str (fun _ h => h.1.2) rfl) (KS.out _ fz0) ?_
      (try simp only [Act.put, List.getElem_toArray, List.getElem_cons_zero, List.getElem_cons_succ, List.setIfInBounds_toArray, List.set_cons_zero, List.set_cons_succ])
      refine wpAnyH_take (i := 4) (v := .agg (qc zQ)) rfl (by kernel_rfl) (by kernel_rfl) (by kernel_rfl) (fun _ _ _ h => h) (Or.inl ⟨by rfl, fun w' hw' => by first | (go_simp; done) | (go_simp; rfl)⟩) (KS.out _ fz0) ?_
      (try simp only [Act.put, List.getElem_toArray, List.getElem_cons_zero, List.getElem_cons_succ, List.setIfInBounds_toArray, List.set_cons_zero, List.set_cons_succ])
      refine wpAnyH_take (i := 5) (v := .bool true) rfl (by kernel_rfl) (by kernel_rfl) (by kernel_rfl) (fun _ _ _ h => h) (Or.inl ⟨by rfl, fun w' _ => (exec_eqG w' _ zQ zQ rfl rfl).trans (by rw [(decide_eq_true (rfl : qi zQ = qi zQ))])⟩) (KS.out _ fz0) ?_
      (try simp only [Act.put, List.getElem_toArray, List.getElem_cons_zero, List.getElem_cons_succ, List.setIfInBounds_toArray, List.set_cons_zero, List.set_cons_succ])
      refine wpAnyH_take (i := 6) (v := .bool true) rfl (by kernel_rfl) (by kernel_rfl) (by kernel_rfl) (fun _ _ _ h => h) (Or.inl ⟨by rfl, fun w' hw' => by first | (go_simp; done) | (go_simp; rfl)⟩) (KS.out _ fz0) ?_
      (try simp only [Act.put, List.getElem_toArray, List.getElem_cons_zero, List.getElem_cons_succ, List.setIfInBounds_toArray, List.set_cons_zero, List.set_cons_succ])
      refine wpAnyH_take (i := 7) (v := .bool true) rfl (by kernel_rfl) (by kernel_rfl) (by kernel_rfl) (fun _ _ _ h => h) (Or.inl ⟨by rfl, fun w' hw' => by first | (go_simp; done) | (go_simp; rfl)⟩) (KS.out _ fz0) ?_
      (try simp only [Act.put, List.getElem_toArray, List.getElem_cons_zero, List.getElem_cons_succ, List.setIfInBounds_toArray, List.set_cons_zero, List.set_cons_succ])
      refine wpAnyH_take (i := 8) (v := .agg (qc s)) rfl (by kernel_rfl) (by kernel_rfl) (by kernel_rfl) (fun _ _ _ h => h) (yields_loadG (by rfl) rfl Try.req_str (fun _ h => h.1.1) rfl) (KS.out _ fz0) ?_
      (try simp only [Act.put, List.getElem_toArray, List.getElem_cons_zero, List.getElem_cons_succ, List.setIfInBounds_toArray, List.set_cons_zero, List.set_cons_succ])
      refine wpAnyH_all (rs := [9]) (by kernel_rfl) (by simp) (fun i hi => ?_)
      obtain rfl : i = 9 := by simpa using hi
      refine wpOp_step rfl (fun K hK => ?_)
      go_simp
      refine (KG.out _).mono ?_
      rintro e wz1 ⟨rfl, hfz1⟩
      have fz1 : Fr Nil _ _ := fz0.trans hfz1
      refine hK _ _ ⟨(KS.out _ fz1), ?_⟩
      clear hK K hi
      (try simp only [Act.put, List.getElem_toArray, List.getElem_cons_zero, List.getElem_cons_succ, List.setIfInBounds_toArray, List.set_cons_zero, List.set_cons_succ])
      refine wpAnyH_take (i := 10) (v := .bool true) rfl (by kernel_rfl) (by kernel_rfl) (by kernel_rfl) (fun _ _ _ h => h) (Or.inl ⟨by rfl, fun w' hw' => by first | (go_simp; done) | (go_simp; rfl)⟩) (KS.out _ fz1) ?_
      (try simp only [Act.put, List.getElem_toArray, List.getElem_cons_zero, List.getElem_cons_succ, List.setIfInBounds_toArray, List.set_cons_zero, List.set_cons_succ])
      refine wpAnyH_take (i := 11) (v := .bool true) rfl (by kernel_rfl) (by kernel_rfl) (by kernel_rfl) (fun _ _ _ h => h) (Or.inl ⟨by rfl, fun w' hw' => by first | (go_simp; done) | (go_simp; rfl)⟩) (KS.out _ fz1) ?_
      (try simp only [Act.put, List.getElem_toArray, List.getElem_cons_zero, List.getElem_cons_succ, List.setIfInBounds_toArray, List.set_cons_zero, List.set_cons_succ])
      refine wpAnyH_take (i := 12) (v := undef) rfl (by kernel_rfl) (by kernel_rfl) (by kernel_rfl) (fun _ _ _ h => h) (Or.inr ⟨by rfl, rfl⟩) (KS.out _ fz1) ?_
      (try simp only [Act.put, List.getElem_toArray, List.getElem_cons_zero, List.getElem_cons_succ, List.setIfInBounds_toArray, List.set_cons_zero, List.set_cons_succ])
      refine wpAnyH_take (i := 13) (v := undef) rfl (by kernel_rfl) (by kernel_rfl) (by kernel_rfl) (fun _ _ _ h => h) (Or.inr ⟨by rfl, rfl⟩) (KS.out _ fz1) ?_
      (try simp only [Act.put, List.getElem_toArray, List.getElem_cons_zero, List.getElem_cons_succ, List.setIfInBounds_toArray, List.set_cons_zero, List.set_cons_succ])
      refine wpAnyH_take (i := 14) (v := undef) rfl (by kernel_rfl) (by kernel_rfl) (by kernel_rfl) (fun _ _ _ h => h) (Or.inr ⟨by rfl, rfl⟩) (KS.out _ fz1) ?_
      (try simp only [Act.put, List.getElem_toArray, List.getElem_cons_zero, List.getElem_cons_succ, List.setIfInBounds_toArray, List.set_cons_zero, List.set_cons_succ])
      refine wpAnyH_take (i := 15) (v := undef) rfl (by kernel_rfl) (by kernel_rfl) (by kernel_rfl) (fun _ _ _ h => h) (Or.inr ⟨by rfl, rfl⟩) (KS.out _ fz1) ?_
      (try simp only [Act.put, List.getElem_toArray, List.getElem_cons_zero, List.getElem_cons_succ, List.setIfInBounds_toArray, List.set_cons_zero, List.set_cons_succ])
      refine wpAnyH_take (i := 16) (v := undef) rfl (by kernel_rfl) (by kernel_rfl) (by kernel_rfl) (fun _ _ _ h => h) (Or.inr ⟨by rfl, rfl⟩) (KS.out _ fz1) ?_
      (try simp only [Act.put, List.getElem_toArray, List.getElem_cons_zero, List.getElem_cons_succ, List.setIfInBounds_toArray, List.set_cons_zero, List.set_cons_succ])
      refine wpAnyH_take (i := 17) (v := undef) rfl (by kernel_rfl) (by kernel_rfl) (by kernel_rfl) (fun _ _ _ h => h) (Or.inr ⟨by rfl, rfl⟩) (KS.out _ fz1) ?_
      (try simp only [Act.put, List.getElem_toArray, List.getElem_cons_zero, List.getElem_cons_succ, List.setIfInBounds_toArray, List.set_cons_zero, List.set_cons_succ])
      refine wpAnyH_take (i := 18) (v := .bool true) rfl (by kernel_rfl) (by kernel_rfl) (by kernel_rfl) (fun _ _ _ h => h) (Or.inl ⟨by rfl, fun w' hw' => by first | (go_simp; done) | (go_simp; rfl)⟩) (KS.out _ fz1) ?_
      (try simp only [Act.put, List.getElem_toArray, List.getElem_cons_zero, List.getElem_cons_succ, List.setIfInBounds_toArray, List.set_cons_zero, List.set_cons_succ])
      refine wpAnyH_take (i := 19) (v := .bool true) rfl (by kernel_rfl) (by kernel_rfl) (by kernel_rfl) (fun _ _ _ h => h) (Or.inl ⟨by rfl, fun w' hw' => by first | (go_simp; done) | (go_simp; rfl)⟩) (KS.out _ fz1) ?_
      (try simp only [Act.put, List.getElem_toArray, List.getElem_cons_zero, List.getElem_cons_succ, List.setIfInBounds_toArray, List.set_cons_zero, List.set_cons_succ])
      refine wpAnyH_take (i := 20) (v := .bool true) rfl (by kernel_rfl) (by kernel_rfl) (by kernel_rfl) (fun _ _ _ h => h) (Or.inl ⟨by rfl, fun w' hw' => by first | (go_simp; done) | (go_simp; rfl)⟩) (KS.out _ fz1) ?_
      (try simp only [Act.put, List.getElem_toArray, List.getElem_cons_zero, List.getElem_cons_succ, List.setIfInBounds_toArray, List.set_cons_zero, List.set_cons_succ])
      refine wpAnyH_all (rs := [21]) (by kernel_rfl) (by simp) (fun i hi => ?_)
      obtain rfl : i = 21 := by simpa using hi
      refine wpOp_step rfl (fun K hK => ?_)
      go_simp
      refine (KL.out _).mono ?_
      rintro e wz2 ⟨rfl, hfz2⟩
      have fz2 : Fr Nil _ _ := fz1.trans hfz2
      refine hK _ _ ⟨(KS.out _ fz2), ?_⟩
      clear hK K hi
      (try simp only [Act.put, List.getElem_toArray, List.getElem_cons_zero, List.getElem_cons_succ, List.setIfInBounds_toArray, List.set_cons_zero, List.set_cons_succ])
      refine wpAnyH_take (i := 22) (v := .bool true) rfl (by kernel_rfl) (by kernel_rfl) (by kernel_rfl) (fun _ _ _ h => h) (Or.inl ⟨by rfl, fun w' hw' => by first | (go_simp; done) | (go_simp; rfl)⟩) (KS.out _ fz2) ?_
      (try simp only [Act.put, List.getElem_toArray, List.getElem_cons_zero, List.getElem_cons_succ, List.setIfInBounds_toArray, List.set_cons_zero, List.set_cons_succ])
      refine wpAnyH_take (i := 23) (v := .bool true) rfl (by kernel_rfl) (by kernel_rfl) (by kernel_rfl) (fun _ _ _ h => h) (Or.inl ⟨by rfl, fun w' hw' => by first | (go_simp; done) | (go_simp; rfl)⟩) (KS.out _ fz2) ?_
      (try simp only [Act.put, List.getElem_toArray, List.getElem_cons_zero, List.getElem_cons_succ, List.setIfInBounds_toArray, List.set_cons_zero, List.set_cons_succ])
      refine wpAnyH_done (by kernel_rfl) ?_ _
      go_wp2_with fail
      go_ret
      exact ⟨rfl, HF5.out.trans fz2⟩
  | ok x =>
    have KD := Lib.hid (Decode_ok w3 (by have := hLb.out; omega) HBy.out HO3.out hd)
    obtain ⟨hgx, hqx, hex, hlx⟩ := dec_back HBy.out hd
    have KG := Lib.hid (fun W => (refgood_any W x).mono fun e w' h => (show e = .returned (.bool true) ∧ Fr Nil W w' from ⟨tells_yes h.1 hgx, h.2⟩))
    have KE := Lib.hid (fun W => refenc_any W x hgx hlx)
    rw [hex] at KE
    have KO := Lib.hid (fun W => refonly_any W x hgx)
    have HQ := Lib.hid (show decide (qi x = qi (onlyQ x)) = true from decide_eq_true hqx.symm)
    have hse := str_dec HBy.out HBy.out
    rw [decide_eq_true rfl] at hse
    clear hd hgx hqx hex hlx
    refine KD.out.mono ?_
    rintro e w4 ⟨rfl, hf4⟩
    have HF4 := Lib.hid ((HF3.out.trans hf4).alloc (.cells #[.int .i64 0, .int .i64 0, .int .i64 0, .int .i64 0, .int .i64 0, .int .i64 0, .int .i64 0, .int .i64 0, .int .i64 0, .int .i64 0, .int .i64 0, .int .i64 0, .int .i64 0, .int .i64 0, .int .i64 0, .int .i64 0, .int .i64 0, .int .i64 0] 36))
    have HX4 := Lib.hid (Bk.new w4 36 #[.int .i64 0, .int .i64 0, .int .i64 0, .int .i64 0, .int .i64 0, .int .i64 0, .int .i64 0, .int .i64 0, .int .i64 0, .int .i64 0, .int .i64 0, .int .i64 0, .int .i64 0, .int .i64 0, .int .i64 0, .int .i64 0, .int .i64 0, .int .i64 0])
    have HS4 := Lib.hid (HB3.out.fr hf4 id).lt
    clear hf4 KD
    go_upto_region 6 with (first
      | (with_reducible refine wpList_storeQ (x := .tmp 5) (y := .tmp 17) (q := x) ?_ ?_ HX4.out ?_ ?_); rfl; rfl; rfl; intro w5 hb5 hf5; have HX5 := Lib.hid hb5; have HF5 := Lib.hid (HF4.out.then hf5 (fun k hk hlt => by have := HS4.out; omega)); have HV5 := Lib.hid (HV.out.fr HF5.out); clear hb5 hf5)
    generalize w4.heap.size = m at *
    clear HX4 HF4 HB3 HF3 HO3 HB G0 HV HVw
    have KS := Lib.hid (fun W (h : Fr Nil w5 W) => (show Bk W m 36 (qc x) ∧ Come EB W v0 bs from ⟨HX5.out.fr h id, HV5.out.fr h⟩))
    refine wp_region_held (S := fun w' => Bk w' m 36 (qc x) ∧ Come EB w' v0 bs) (by kernel_rfl) ?_
    have fz0 : Fr Nil w5 w5.drew := (Fr.refl Nil w5).drew
    change wpAnyH _ _ _ _ _ _ _ _ (World.drew _)
    refine wpAnyH_take (i := 0) (v := .agg (qc x)) rfl (by kernel_rfl) (by kernel_rfl) (by kernel_rfl) (fun _ _ _ h => h) (yields_loadG (by rfl) rfl Try.req_str (fun _ h => h.1) rfl) (KS.out _ fz0) ?_
    (try simp only [Act.put, List.getElem_toArray, List.getElem_cons_zero, List.getElem_cons_succ, List.setIfInBounds_toArray, List.set_cons_zero, List.set_cons_succ])
    refine wpAnyH_all (rs := [1]) (by kernel_rfl) (by simp) (fun i hi => ?_)
    obtain rfl : i = 1 := by simpa using hi
    refine wpOp_step rfl (fun K hK => ?_)
    go_simp
    refine (KG.out _).mono ?_
    rintro e wz1 ⟨rfl, hfz1⟩
    have fz1 : Fr Nil _ _ := fz0.trans hfz1
    refine hK _ _ ⟨(KS.out _ fz1), ?_⟩
    clear hK K hi
    (try simp only [Act.put, List.getElem_toArray, List.getElem_cons_zero, List.getElem_cons_succ, List.setIfInBounds_toArray, List.set_cons_zero, List.set_cons_succ])
    refine wpAnyH_take (i := 2) (v := .bool true) rfl (by kernel_rfl) (by kernel_rfl) (by kernel_rfl) (fun _ _ _ h => h) (Or.inl ⟨by rfl, fun w' hw' => by first | (go_simp; done) | (go_simp; rfl)⟩) (KS.out _ fz1) ?_
    (try simp only [Act.put, List.getElem_toArray, List.getElem_cons_zero, List.getElem_cons_succ, List.setIfInBounds_toArray, List.set_cons_zero, List.set_cons_succ])
    refine wpAnyH_take (i := 3) (v := .agg (qc x)) rfl (by kernel_rfl) (by kernel_rfl) (by kernel_rfl) (fun _ _ _ h => h) (yields_loadG (by rfl) rfl Try.req_str (fun _ h => h.1) rfl) (KS.out _ fz1) ?_
    (try simp only [Act.put, List.getElem_toArray, List.getElem_cons_zero, List.getElem_cons_succ, List.setIfInBounds_toArray, List.set_cons_zero, List.set_cons_succ])
    refine wpAnyH_take (i := 4) (v := .agg (qc x)) rfl (by kernel_rfl) (by kernel_rfl) (by kernel_rfl) (fun _ _ _ h => h) (yields_loadG (by rfl) rfl Try.req_str (fun _ h => h.1) rfl) (KS.out _ fz1) ?_
    (try simp only [Act.put, List.getElem_toArray, List.getElem_cons_zero, List.getElem_cons_succ, List.setIfInBounds_toArray, List.set_cons_zero, List.set_cons_succ])
    refine wpAnyH_all (rs := [5]) (by kernel_rfl) (by simp) (fun i hi => ?_)
    obtain rfl : i = 5 := by simpa using hi
    refine wpOp_step rfl (fun K hK => ?_)
    go_simp
    refine (KO.out _).mono ?_
    rintro e wz2 ⟨rfl, hfz2⟩
    have fz2 : Fr Nil _ _ := fz1.trans hfz2
    refine hK _ _ ⟨(KS.out _ fz2), ?_⟩
    clear hK K hi
    (try simp only [Act.put, List.getElem_toArray, List.getElem_cons_zero, List.getElem_cons_succ, List.setIfInBounds_toArray, List.set_cons_zero, List.set_cons_succ])
    refine wpAnyH_take (i := 6) (v := .bool true) rfl (by kernel_rfl) (by kernel_rfl) (by kernel_rfl) (fun _ _ _ h => h) (Or.inl ⟨by rfl, fun w' _ => (exec_eqG w' _ x (onlyQ x) rfl rfl).trans (by rw [HQ.out])⟩) (KS.out _ fz2) ?_
    (try simp only [Act.put, List.getElem_toArray, List.getElem_cons_zero, List.getElem_cons_succ, List.setIfInBounds_toArray, List.set_cons_zero, List.set_cons_succ])
    refine wpAnyH_take (i := 7) (v := .bool true) rfl (by kernel_rfl) (by kernel_rfl) (by kernel_rfl) (fun _ _ _ h => h) (Or.inl ⟨by rfl, fun w' hw' => by first | (go_simp; done) | (go_simp; rfl)⟩) (KS.out _ fz2) ?_
    (try simp only [Act.put, List.getElem_toArray, List.getElem_cons_zero, List.getElem_cons_succ, List.setIfInBounds_toArray, List.set_cons_zero, List.set_cons_succ])
    refine wpAnyH_take (i := 8) (v := .bool true) rfl (by kernel_rfl) (by kernel_rfl) (by kernel_rfl) (fun _ _ _ h => h) (Or.inl ⟨by rfl, fun w' hw' => by first | (go_simp; done) | (go_simp; rfl)⟩) (KS.out _ fz2) ?_
    (try simp only [Act.put, List.getElem_toArray, List.getElem_cons_zero, List.getElem_cons_succ, List.setIfInBounds_toArray, List.set_cons_zero, List.set_cons_succ])
    refine wpAnyH_take (i := 9) (v := .agg (qc x)) rfl (by kernel_rfl) (by kernel_rfl) (by kernel_rfl) (fun _ _ _ h => h) (yields_loadG (by rfl) rfl Try.req_str (fun _ h => h.1) rfl) (KS.out _ fz2) ?_
    (try simp only [Act.put, List.getElem_toArray, List.getElem_cons_zero, List.getElem_cons_succ, List.setIfInBounds_toArray, List.set_cons_zero, List.set_cons_succ])
    refine wpAnyH_take (i := 12) (v := v0) rfl (by kernel_rfl) (by kernel_rfl) (by kernel_rfl) (fun _ _ _ h => h) (Or.inl ⟨by rfl, fun w' hw' => by first | (go_simp; done) | (go_simp; rfl)⟩) (KS.out _ fz2) ?_
    (try simp only [Act.put, List.getElem_toArray, List.getElem_cons_zero, List.getElem_cons_succ, List.setIfInBounds_toArray, List.set_cons_zero, List.set_cons_succ])
    refine wpAnyH_take (i := 13) (v := .string (strOfNums bs)) rfl (by kernel_rfl) (by kernel_rfl) (by kernel_rfl) (fun _ _ _ h => h) (Or.inl ⟨by rfl, fun w' hw' => by have he := HCV.out w' _ _ hw'.2; first | (go_simp; done) | (go_simp; rfl)⟩) (KS.out _ fz2) ?_
    (try simp only [Act.put, List.getElem_toArray, List.getElem_cons_zero, List.getElem_cons_succ, List.setIfInBounds_toArray, List.set_cons_zero, List.set_cons_succ])
    refine wpAnyH_all (rs := [10]) (by kernel_rfl) (by simp) (fun i hi => ?_)
    obtain rfl : i = 10 := by simpa using hi
    refine wpOp_step rfl (fun K hK => ?_)
    go_simp
    refine (KE.out _).mono ?_
    rintro e wz3 ⟨u6, rfl, hfz3, ho6⟩
    have fz3 : Fr Nil _ _ := fz2.trans hfz3
    have hcv6 := HCV.out _ _ _ (Sl.come (Own.sl EB_ok ho6))
    refine hK _ _ ⟨(KS.out _ fz3), ?_⟩
    clear hK K hi
    (try simp only [Act.put, List.getElem_toArray, List.getElem_cons_zero, List.getElem_cons_succ, List.setIfInBounds_toArray, List.set_cons_zero, List.set_cons_succ])
    refine wpAnyH_all (rs := [11]) (by kernel_rfl) (by simp) (fun i hi => ?_)
    obtain rfl : i = 11 := by simpa using hi
    refine wpOp_step rfl (fun K hK => ?_)
    go_simp
    refine hK _ _ ⟨(KS.out _ fz3), ?_⟩
    clear hK K hi
    (try simp only [Act.put, List.getElem_toArray, List.getElem_cons_zero, List.getElem_cons_succ, List.setIfInBounds_toArray, List.set_cons_zero, List.set_cons_succ])
    refine wpAnyH_take (i := 14) (v := .bool true) rfl (by kernel_rfl) (by kernel_rfl) (by kernel_rfl) (fun _ _ _ h => h) (Or.inl ⟨by rfl, fun w' hw' => by first | (go_simp; done) | (go_simp; rfl)⟩) (KS.out _ fz3) ?_
    (try simp only [Act.put, List.getElem_toArray, List.getElem_cons_zero, List.getElem_cons_succ, List.setIfInBounds_toArray, List.set_cons_zero, List.set_cons_succ])
    refine wpAnyH_take (i := 15) (v := .bool true) rfl (by kernel_rfl) (by kernel_rfl) (by kernel_rfl) (fun _ _ _ h => h) (Or.inl ⟨by rfl, fun w' hw' => by first | (go_simp; done) | (go_simp; rfl)⟩) (KS.out _ fz3) ?_
    (try simp only [Act.put, List.getElem_toArray, List.getElem_cons_zero, List.getElem_cons_succ, List.setIfInBounds_toArray, List.set_cons_zero, List.set_cons_succ])
    refine wpAnyH_take (i := 16) (v := .bool true) rfl (by kernel_rfl) (by kernel_rfl) (by kernel_rfl) (fun _ _ _ h => h) (Or.inl ⟨by rfl, fun w' hw' => by first | (go_simp; done) | (go_simp; rfl)⟩) (KS.out _ fz3) ?_
    (try simp only [Act.put, List.getElem_toArray, List.getElem_cons_zero, List.getElem_cons_succ, List.setIfInBounds_toArray, List.set_cons_zero, List.set_cons_succ])
    refine wpAnyH_all (rs := [17]) (by kernel_rfl) (by simp) (fun i hi => ?_)
    obtain rfl : i = 17 := by simpa using hi
    refine wpOp_step rfl (fun K hK => ?_)
    go_simp
    refine (KL.out _).mono ?_
    rintro e wz4 ⟨rfl, hfz4⟩
    have fz4 : Fr Nil _ _ := fz3.trans hfz4
    refine hK _ _ ⟨(KS.out _ fz4), ?_⟩
    clear hK K hi
    (try simp only [Act.put, List.getElem_toArray, List.getElem_cons_zero, List.getElem_cons_succ, List.setIfInBounds_toArray, List.set_cons_zero, List.set_cons_succ])
    refine wpAnyH_take (i := 18) (v := .bool true) rfl (by kernel_rfl) (by kernel_rfl) (by kernel_rfl) (fun _ _ _ h => h) (Or.inl ⟨by rfl, fun w' hw' => by first | (go_simp; done) | (go_simp; rfl)⟩) (KS.out _ fz4) ?_
    (try simp only [Act.put, List.getElem_toArray, List.getElem_cons_zero, List.getElem_cons_succ, List.setIfInBounds_toArray, List.set_cons_zero, List.set_cons_succ])
    refine wpAnyH_take (i := 19) (v := .bool true) rfl (by kernel_rfl) (by kernel_rfl) (by kernel_rfl) (fun _ _ _ h => h) (Or.inl ⟨by rfl, fun w' hw' => by first | (go_simp; done) | (go_simp; rfl)⟩) (KS.out _ fz4) ?_
    (try simp only [Act.put, List.getElem_toArray, List.getElem_cons_zero, List.getElem_cons_succ, List.setIfInBounds_toArray, List.set_cons_zero, List.set_cons_succ])
    refine wpAnyH_done (by kernel_rfl) ?_ _
    go_wp2_with fail
    go_ret
    exact ⟨rfl, HF5.out.trans fz4⟩
theorem reads_any (w : World) (b0 : List Int) (s : Rq) (v : Value) (hl : b0.length ≤ maxLen) (hb0 : Bytes b0) (hv : Come EB w v b0) (ls : Long s) :
    Calls Try.prog 3 #[v, .agg (qc s)] w fun e w' => e = .returned (.bool true) ∧ Fr Nil w w' := by
  by_cases h : (100 : Int) < b0.length
  · exact reads_big w b0 s v hl hb0 hv ls h
  · exact reads_small w b0 s v hl hb0 hv ls h
end Go.Proofs.Ytdfggjniemncgaa.CodecN
