/- Chapter 32: the walk of start. -/
import Derived.Test.YteceghhjpejdnaaSessE
import Derived.Test.YteceghhjpejdnaaBigR
namespace Go.Proofs.Yteceghhjpejdnaa.SessF
open Go.RowKit Base Big Slices TrapA TrapB TrapG CodecA CodecB CodecC CodecK SessA SessB SessD SessE
set_option linter.unusedVariables false
set_option linter.unusedSimpArgs false

theorem yields_loadG {P : Program} {g : Nat} {T t : TypeId} {cs : Array Value} {ops : Array Oper} {S : World → Prop} {n : Nat} {a : Act} {dst : Option Tmp} {x : Operand} {ty : TypeId} {pos : String} {aft : Array Edge} {gd : Option (Nat × Bool)}
    (hw : Region.wanted ⟨dst, .load t x, ty, pos, aft, gd⟩ (yielded ops a.tmps) = true)
    (hx : a.eval x = .pointer (some ⟨g, 0, none⟩)) (hT : Str P t n) (hS : ∀ w, S w → Bk w g T cs) (hn : cs.size = n) : YieldsIf P ops S ⟨dst, .load t x, ty, pos, aft, gd⟩ (.agg cs) a :=
  .inl ⟨hw, fun w hw => by
    obtain ⟨⟨fs, hu⟩, hi⟩ := hT
    unfold execOp
    simp only [hx, Instr.loadAt, Instr.sureAddr, Sem.run_bind, Sem.run_pure, Result.andThen_ok, run_loadVar_row w g T t cs (0, 0) _ (hS w hw) hu rfl (by rw [hn]; exact hi)]⟩
theorem wpOp_storeM {w : World} {g : Nat} {p : Int} {r q : Rq} {t b : Int} {ops : Array Oper} {i : Nat} {Q : Exit → Act → World → Prop} {K : Act → World → Prop} {a : Act} {dst : Option Tmp} {x y : Operand} {ty : TypeId} {pos : String} {aft : Array Edge}
    (hi : ops[i]? = some ⟨dst, .store 40 x y, ty, pos, aft, none⟩) (hx : a.eval x = .pointer (some ⟨g, 1, none⟩)) (hy : a.eval y = .agg (qc q)) (hB : Ss w g p r t b)
    (h : ∀ w', Ss w' g p q t b → Fr (fun k => k = g) w w' → K (a.put dst undef) w') : wpOp Try.prog ops Q i K a w :=
  wpOp_step hi fun K' hK => by
    show (if true = true then _ else _)
    rw [if_pos rfl]
    obtain ⟨⟨fs, hu⟩, hii⟩ := Try.req_str
    refine wp_store_mid 40 x y rfl g 1 (qc q) hx hy (there_mid hB) hii (qc_one q) (hK _ _ (h _ ?_ ?_))
    · have := bk_cells (qc q).toList 1 w _ hB
      rwa [put_sc] at this
    · exact fr_cells (S := fun k => k = g) (fun _ => rfl) _ _ _ (Fr.refl _ _)

section
variable (w : World)
set_option maxRecDepth 100000 in
set_option maxHeartbeats 2000000 in
theorem start_ok {g : Nat} {r q : Rq} {t b : Int} (hB : Ss w g 0 q t b) (hgr : GoodQ r) : Calls Try.prog 19 #[.pointer (some ⟨g, 0, none⟩), .agg (qc r)] w fun e w' => e = .returned (.tuple #[]) ∧ Fr (fun k => k = g) w w' ∧ Ss w' g (fst r b) (onlyQ r) 0 b := by
  have hg := hB.lt
  have HR0 := Lib.hid ((Bk.new w 40 (qc r)).alloc (.cells #[.int .i64 0, .int .i64 1, .int .i64 2, .int .i64 3] 42))
  have HS0 := Lib.hid ((hB.alloc (.cells (qc r) 40)).alloc (.cells #[.int .i64 0, .int .i64 1, .int .i64 2, .int .i64 3] 42))
  have G0 := Lib.hid (((Fr.refl Nil w).alloc (.cells (qc r) 40)).alloc (.cells #[.int .i64 0, .int .i64 1, .int .i64 2, .int .i64 3] 42))
  have KI := Lib.hid (in_ok ((w.alloc (.cells (qc r) 40)).alloc (.cells #[.int .i64 0, .int .i64 1, .int .i64 2, .int .i64 3] 42)) (c := 10) (w.heap.size + 1) 4 [0, 1, 2, 3] HS0.out (lit_sl EP_ok [0, 1, 2, 3] rfl (by simp) _) rfl (by decide) (by simp))
  have KG := Lib.hid (fun W => (Good_any W r).mono fun e w' h => (show e = .returned (.bool true) ∧ Fr Nil W w' by
    obtain ⟨⟨bb, rfl, hb⟩, hf⟩ := h
    refine ⟨?_, hf⟩
    cases bb with
    | true => rfl
    | false => exact absurd (hb.2 hgr) (by simp)))
  have KI2 := Lib.hid (fun W (h : Ss W g 0 q t b) => in_ok (W.alloc (.cells #[.int .i64 0] 42)) (c := 7) W.heap.size 1 [0] (Bk.alloc h _) (lit_sl EP_ok [0] rfl rfl _) rfl (by decide) (by simp))
  have KF := Lib.hid (fun W (h : Ss W g 0 q t b) => first_any W (r := r) h)
  have KO := Lib.hid (fun W => Only_any W r)
  clear hB hgr
  generalize fst r b = f at *
  generalize onlyQ r = o at *
  go_enter Try.func19, Try.ntmps19
  go_wp2_with fail
  refine KI.out.mono ?_
  rintro e w1 ⟨rfl, hf1⟩
  have HR1 := Lib.hid (HR0.out.fr hf1 id)
  have HS1 := Lib.hid (HS0.out.fr hf1 id)
  have HF1 := Lib.hid (G0.out.trans hf1)
  clear hf1 HR0 HS0 G0 KI
  go_wp2_with (first
    | (with_reducible refine wpList_loadQ (dst := some 7) ?_ HR1.out ?_); rfl)
  refine (KG.out _).mono ?_
  rintro e w2 ⟨rfl, hf2⟩
  have HR2 := Lib.hid (HR1.out.fr hf2 id)
  have HS2 := Lib.hid (HS1.out.fr hf2 id)
  have HF2 := Lib.hid (HF1.out.trans hf2)
  clear hf2 HR1 HS1 HF1
  go_wp2_with fail
  refine (KI2.out _ HS2.out).mono ?_
  rintro e w3 ⟨rfl, hf3⟩
  have HR3 := Lib.hid ((HR2.out.alloc _).fr hf3 id)
  have HS3 := Lib.hid ((HS2.out.alloc _).fr hf3 id)
  have HF3 := Lib.hid ((HF2.out.alloc _).trans hf3)
  clear hf3 HR2 HS2 HF2
  go_wp2_with fail
  · have KS := Lib.hid (fun W (h : Fr (fun k => k = g) w3 W) => (show Bk W w.heap.size 40 (qc r) from HR3.out.fr h (by omega)))
    refine wp_region_held (S := fun w' => Bk w' w.heap.size 40 (qc r)) (by kernel_rfl) ?_
    have HD0 : Fr Nil w3 w3.drew := (Fr.refl Nil w3).drew
    have fz0 : Fr (fun k => k = g) w3 w3.drew := HD0.of_nil
    change wpAnyH _ _ _ _ _ _ _ _ (World.drew _)
    refine wpAnyH_take (i := 0) (v := .pointer (some ⟨g, 0, none⟩)) rfl (by kernel_rfl) (by kernel_rfl) (by kernel_rfl) (fun _ _ _ h => h) (Or.inl ⟨by rfl, fun w' hw' => by first | (go_simp; done) | (go_simp; rfl)⟩) (KS.out _ fz0) ?_
    (try simp only [Act.put, List.getElem_toArray, List.getElem_cons_zero, List.getElem_cons_succ, List.setIfInBounds_toArray, List.set_cons_zero, List.set_cons_succ])
    refine wpAnyH_take (i := 1) (v := .pointer (some ⟨g, 0, none⟩)) rfl (by kernel_rfl) (by kernel_rfl) (by kernel_rfl) (fun _ _ _ h => h) (Or.inl ⟨by rfl, fun w' hw' => by first | (go_simp; done) | (go_simp; rfl)⟩) (KS.out _ fz0) ?_
    (try simp only [Act.put, List.getElem_toArray, List.getElem_cons_zero, List.getElem_cons_succ, List.setIfInBounds_toArray, List.set_cons_zero, List.set_cons_succ])
    refine wpAnyH_take (i := 2) (v := .pointer (some ⟨g, 0, none⟩)) rfl (by kernel_rfl) (by kernel_rfl) (by kernel_rfl) (fun _ _ _ h => h) (Or.inl ⟨by rfl, fun w' hw' => by first | (go_simp; done) | (go_simp; rfl)⟩) (KS.out _ fz0) ?_
    (try simp only [Act.put, List.getElem_toArray, List.getElem_cons_zero, List.getElem_cons_succ, List.setIfInBounds_toArray, List.set_cons_zero, List.set_cons_succ])
    refine wpAnyH_take (i := 3) (v := .pointer (some ⟨g, 0, none⟩)) rfl (by kernel_rfl) (by kernel_rfl) (by kernel_rfl) (fun _ _ _ h => h) (Or.inl ⟨by rfl, fun w' hw' => by first | (go_simp; done) | (go_simp; rfl)⟩) (KS.out _ fz0) ?_
    (try simp only [Act.put, List.getElem_toArray, List.getElem_cons_zero, List.getElem_cons_succ, List.setIfInBounds_toArray, List.set_cons_zero, List.set_cons_succ])
    refine wpAnyH_take (i := 4) (v := .agg (qc r)) rfl (by kernel_rfl) (by kernel_rfl) (by kernel_rfl) (fun _ _ _ h => h) (yields_loadG (by rfl) rfl Try.req_str (fun _ h => h) rfl) (KS.out _ fz0) ?_
    (try simp only [Act.put, List.getElem_toArray, List.getElem_cons_zero, List.getElem_cons_succ, List.setIfInBounds_toArray, List.set_cons_zero, List.set_cons_succ])
    refine wpAnyH_take (i := 6) (v := .agg (qc r)) rfl (by kernel_rfl) (by kernel_rfl) (by kernel_rfl) (fun _ _ _ h => h) (yields_loadG (by rfl) rfl Try.req_str (fun _ h => h) rfl) (KS.out _ fz0) ?_
    (try simp only [Act.put, List.getElem_toArray, List.getElem_cons_zero, List.getElem_cons_succ, List.setIfInBounds_toArray, List.set_cons_zero, List.set_cons_succ])
    refine wpAnyH_all (rs := [5]) (by kernel_rfl) (by simp) (fun i hi => ?_)
    obtain rfl : i = 5 := by simpa using hi
    refine wpOp_step rfl (fun K hK => ?_)
    go_simp
    refine (KF.out _ (HS3.out.fr HD0 id)).mono ?_
    rintro e wz1 ⟨rfl, hfz1⟩
    have fz1 : Fr (fun k => k = g) w3 wz1 := fz0.trans hfz1.of_nil
    have HSa := Lib.hid ((HS3.out.fr HD0 id).fr hfz1 id)
    refine hK _ _ ⟨(KS.out _ fz1), ?_⟩
    clear hK K hi
    (try simp only [Act.put, List.getElem_toArray, List.getElem_cons_zero, List.getElem_cons_succ, List.setIfInBounds_toArray, List.set_cons_zero, List.set_cons_succ])
    refine wpAnyH_all (rs := [7]) (by kernel_rfl) (by simp) (fun i hi => ?_)
    obtain rfl : i = 7 := by simpa using hi
    refine wpOp_step rfl (fun K hK => ?_)
    go_simp
    refine (KO.out _).mono ?_
    rintro e wz2 ⟨rfl, hfz2⟩
    have fz2 : Fr (fun k => k = g) w3 wz2 := fz1.trans hfz2.of_nil
    have HSb := Lib.hid (HSa.out.fr hfz2 id)
    have c0 : wz2.cell? ⟨g, 0, none⟩ = some (.int .i64 0) := HSb.out.cell 0
    have f0 : wz2.frozen? ⟨g, 0, none⟩ = false := HSb.out.frozen 0
    refine hK _ _ ⟨(KS.out _ fz2), ?_⟩
    clear hK K hi
    (try simp only [Act.put, List.getElem_toArray, List.getElem_cons_zero, List.getElem_cons_succ, List.setIfInBounds_toArray, List.set_cons_zero, List.set_cons_succ])
    refine wpAnyH_take (i := 8) (v := .pointer (some ⟨g, 0, none⟩)) rfl (by kernel_rfl) (by kernel_rfl) (by kernel_rfl) (fun _ _ _ h => h) (Or.inl ⟨by rfl, fun w' hw' => by first | (go_simp; done) | (go_simp; rfl)⟩) (KS.out _ fz2) ?_
    (try simp only [Act.put, List.getElem_toArray, List.getElem_cons_zero, List.getElem_cons_succ, List.setIfInBounds_toArray, List.set_cons_zero, List.set_cons_succ])
    refine wpAnyH_take (i := 9) (v := .pointer (some ⟨g, 0, none⟩)) rfl (by kernel_rfl) (by kernel_rfl) (by kernel_rfl) (fun _ _ _ h => h) (Or.inl ⟨by rfl, fun w' hw' => by first | (go_simp; done) | (go_simp; rfl)⟩) (KS.out _ fz2) ?_
    (try simp only [Act.put, List.getElem_toArray, List.getElem_cons_zero, List.getElem_cons_succ, List.setIfInBounds_toArray, List.set_cons_zero, List.set_cons_succ])
    refine wpAnyH_all (rs := [10]) (by kernel_rfl) (by simp) (fun i hi => ?_)
    obtain rfl : i = 10 := by simpa using hi
    refine wpOp_step rfl (fun K hK => ?_)
    go_simp
    have fz3 : Fr (fun k => k = g) w3 (wz2.setCell ⟨g, 0, none⟩ (.int .i64 f)) := Fr.setCell (S := fun k => k = g) (p := ⟨g, 0, none⟩) fz2 (fun _ => rfl) _
    have HSc := Lib.hid (Ss.phase HSb.out f)
    refine hK _ _ ⟨(KS.out _ fz3), ?_⟩
    clear hK K hi
    (try simp only [Act.put, List.getElem_toArray, List.getElem_cons_zero, List.getElem_cons_succ, List.setIfInBounds_toArray, List.set_cons_zero, List.set_cons_succ])
    refine wpAnyH_take (i := 11) (v := .pointer (some ⟨g, 0, none⟩)) rfl (by kernel_rfl) (by kernel_rfl) (by kernel_rfl) (fun _ _ _ h => h) (Or.inl ⟨by rfl, fun w' hw' => by first | (go_simp; done) | (go_simp; rfl)⟩) (KS.out _ fz3) ?_
    (try simp only [Act.put, List.getElem_toArray, List.getElem_cons_zero, List.getElem_cons_succ, List.setIfInBounds_toArray, List.set_cons_zero, List.set_cons_succ])
    refine wpAnyH_take (i := 12) (v := .pointer (some ⟨g, 1, none⟩)) rfl (by kernel_rfl) (by kernel_rfl) (by kernel_rfl) (fun _ _ _ h => h) (Or.inl ⟨by rfl, fun w' hw' => by first | (go_simp; done) | (go_simp; rfl)⟩) (KS.out _ fz3) ?_
    (try simp only [Act.put, List.getElem_toArray, List.getElem_cons_zero, List.getElem_cons_succ, List.setIfInBounds_toArray, List.set_cons_zero, List.set_cons_succ])
    refine wpAnyH_all (rs := [13]) (by kernel_rfl) (by simp) (fun i hi => ?_)
    obtain rfl : i = 13 := by simpa using hi
    refine wpOp_storeM (q := o) rfl rfl rfl HSc.out ?_
    intro wm hbm hfm
    have fz4 : Fr (fun k => k = g) w3 wm := fz3.trans hfm
    refine ⟨(KS.out _ fz4), ?_⟩
    have HSM := Lib.hid hbm
    have c19 : wm.cell? ⟨g, 19, none⟩ = some (.int .i64 t) := HSM.out.cell 19
    have f19 : wm.frozen? ⟨g, 19, none⟩ = false := HSM.out.frozen 19
    try simp only [Act.put]
    refine wpAnyH_take (i := 14) (v := .pointer (some ⟨g, 0, none⟩)) rfl (by kernel_rfl) (by kernel_rfl) (by kernel_rfl) (fun _ _ _ h => h) (Or.inl ⟨by rfl, fun w' hw' => by first | (go_simp; done) | (go_simp; rfl)⟩) (KS.out _ fz4) ?_
    (try simp only [Act.put, List.getElem_toArray, List.getElem_cons_zero, List.getElem_cons_succ, List.setIfInBounds_toArray, List.set_cons_zero, List.set_cons_succ])
    refine wpAnyH_take (i := 15) (v := .pointer (some ⟨g, 19, none⟩)) rfl (by kernel_rfl) (by kernel_rfl) (by kernel_rfl) (fun _ _ _ h => h) (Or.inl ⟨by rfl, fun w' hw' => by first | (go_simp; done) | (go_simp; rfl)⟩) (KS.out _ fz4) ?_
    (try simp only [Act.put, List.getElem_toArray, List.getElem_cons_zero, List.getElem_cons_succ, List.setIfInBounds_toArray, List.set_cons_zero, List.set_cons_succ])
    refine wpAnyH_all (rs := [16]) (by kernel_rfl) (by simp) (fun i hi => ?_)
    obtain rfl : i = 16 := by simpa using hi
    refine wpOp_step rfl (fun K hK => ?_)
    go_simp
    have fzE : Fr (fun k => k = g) w3 (wm.setCell ⟨g, 19, none⟩ (.int .i64 0)) := Fr.setCell (S := fun k => k = g) (p := ⟨g, 19, none⟩) fz4 (fun _ => rfl) _
    refine hK _ _ ⟨(KS.out _ fzE), ?_⟩
    clear hK K hi
    (try simp only [Act.put, List.getElem_toArray, List.getElem_cons_zero, List.getElem_cons_succ, List.setIfInBounds_toArray, List.set_cons_zero, List.set_cons_succ])
    refine wpAnyH_done (by kernel_rfl) ?_ _
    go_wp2_with fail
    go_end0
    exact ⟨rfl, HF3.out.of_nil.trans fzE, Ss.tries HSM.out 0⟩
end
end Go.Proofs.Yteceghhjpejdnaa.SessF
