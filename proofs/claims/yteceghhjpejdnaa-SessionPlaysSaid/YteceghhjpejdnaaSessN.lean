/- Chapter 32: the walks of the reference's session. -/
import Derived.Test.YteceghhjpejdnaaSessF
import Derived.Test.YteceghhjpejdnaaCodecR
import Derived.BigQuiet
namespace Go.Proofs.Yteceghhjpejdnaa.SessN
open Go.RowKit Base Big Slices TrapA TrapB TrapG CodecA CodecB CodecC CodecK SessA SessB SessD SessE SessF CodecR
set_option linter.unusedVariables false
set_option linter.unusedSimpArgs false

theorem tells_yes {P : Prop} {e : Ending} (h : Tells P e) (hp : P) : e = .returned (.bool true) := by
  obtain ⟨b, rfl, hb⟩ := h
  cases b with
  | true => rfl
  | false => exact absurd (hb.2 hp) (by simp)
theorem tells_no {P : Prop} {e : Ending} (h : Tells P e) (hp : ¬ P) : e = .returned (.bool false) := by
  obtain ⟨b, rfl, hb⟩ := h
  cases b with
  | true => exact absurd (hb.1 rfl) hp
  | false => rfl
/-- the reference's session: its phase, how often it failed, how often it may, what it is about -/
def rc (p : Int) (r : Rq) (t b : Int) : Array Value := #[.int .i64 p, .int .i64 t, .int .i64 b, .int .i64 r.k, .int .i64 r.ck, .int .i64 r.p0, .int .i64 r.p1, .int .i64 r.p2, .int .i64 r.s0, .int .i64 r.s1, .int .i64 r.s2, .int .i64 r.qk, .int .i64 r.x1, .int .i64 r.x2, .int .i64 r.y1, .int .i64 r.y2, .int .i64 r.v1, .int .i64 r.v2, .int .i64 r.v3, .int .i64 r.x, .int .i64 r.h]
abbrev Rs (w : World) (x : Nat) (p : Int) (r : Rq) (t b : Int) : Prop := Bk w x 54 (rc p r t b)
theorem Rs.phase {w : World} {x : Nat} {p : Int} {r : Rq} {t b : Int} (h : Rs w x p r t b) (n : Int) : Rs (w.setCell ⟨x, 0, none⟩ (.int .i64 n)) x n r t b := Bk.put h 0 _
theorem Rs.tries {w : World} {x : Nat} {p : Int} {r : Rq} {t b : Int} (h : Rs w x p r t b) (n : Int) : Rs (w.setCell ⟨x, 1, none⟩ (.int .i64 n)) x p r n b := Bk.put h 1 _
theorem midR {w : World} {x : Nat} {p : Int} {r : Rq} {t b : Int} (h : Rs w x p r t b) : w.rangeAt x 3 (qc r).toList := fun j v hv => by
  have hj : j < 18 := by
    have := (List.getElem?_eq_some_iff.1 hv).1
    simpa [qc] using this
  have h' : j = 0 ∨ j = 1 ∨ j = 2 ∨ j = 3 ∨ j = 4 ∨ j = 5 ∨ j = 6 ∨ j = 7 ∨ j = 8 ∨ j = 9 ∨ j = 10 ∨ j = 11 ∨ j = 12 ∨ j = 13 ∨ j = 14 ∨ j = 15 ∨ j = 16 ∨ j = 17 := by omega
  rcases h' with rfl | rfl | rfl | rfl | rfl | rfl | rfl | rfl | rfl | rfl | rfl | rfl | rfl | rfl | rfl | rfl | rfl | rfl <;> exact (h.cell _).trans hv
theorem put_rc (p : Int) (r q : Rq) (t b : Int) : putAll (rc p r t b) 3 (qc q).toList = rc p q t b := by
  simp [rc, qc, putAll]
theorem there_midR {w : World} {x : Nat} {p : Int} {r : Rq} {t b : Int} (h : Rs w x p r t b) : w.there x 3 18 := fun j hj => by
  refine ⟨?_, h.frozen _⟩
  have h1 := midR h j (qc r).toList[j] (List.getElem?_eq_getElem (by simpa [qc] using hj))
  rw [h1]
  rfl

section
variable {w : World} {x : Nat} {p : Int} {r : Rq} {t b : Int}
theorem wpList_loadR {ops : Array Oper} {rest : List Oper} {a : Act} {Q : Exit → Act → World → Prop} {dst : Option Tmp} {y : Operand} {ty : TypeId} {pos : String} {aft : Array Edge}
    (hx : a.eval y = .pointer (some ⟨x, 3, none⟩)) (hB : Rs w x p r t b) (h : wpList Try.prog ops Q rest (a.put dst (.agg (qc r))) w) : wpList Try.prog ops Q (⟨dst, .load 40 y, ty, pos, aft, none⟩ :: rest) a w := by
  obtain ⟨⟨fs, hu⟩, hi⟩ := Try.req_str
  exact wpList_load_mid rfl 40 y rfl x 3 hx (qc r).toList _ (midR hB) hu rfl hi h
theorem wpList_storeR {q : Rq} {ops : Array Oper} {rest : List Oper} {a : Act} {Q : Exit → Act → World → Prop} {dst : Option Tmp} {y z : Operand} {ty : TypeId} {pos : String} {aft : Array Edge}
    (hx : a.eval y = .pointer (some ⟨x, 3, none⟩)) (hy : a.eval z = .agg (qc q)) (hB : Rs w x p r t b)
    (h : ∀ w', Rs w' x p q t b → Fr (fun k => k = x) w w' → wpList Try.prog ops Q rest (a.put dst undef) w') : wpList Try.prog ops Q (⟨dst, .store 40 y z, ty, pos, aft, none⟩ :: rest) a w := by
  obtain ⟨⟨fs, hu⟩, hi⟩ := Try.req_str
  refine wpList_store_mid rfl 40 y z rfl x 3 (qc q) hx hy (there_midR hB) hi (qc_one q) (h _ ?_ ?_)
  · have := bk_cells (qc q).toList 3 w _ hB
    rwa [put_rc] at this
  · exact fr_cells (S := fun k => k = x) (fun _ => rfl) _ _ _ (Fr.refl _ _)
theorem yields_loadR {ops : Array Oper} {S : World → Prop} {a : Act} {dst : Option Tmp} {y : Operand} {ty : TypeId} {pos : String} {aft : Array Edge} {gd : Option (Nat × Bool)}
    (hw : Region.wanted ⟨dst, .load 40 y, ty, pos, aft, gd⟩ (yielded ops a.tmps) = true) (hx : a.eval y = .pointer (some ⟨x, 3, none⟩)) (hS : ∀ w, S w → Rs w x p r t b) : YieldsIf Try.prog ops S ⟨dst, .load 40 y, ty, pos, aft, gd⟩ (.agg (qc r)) a := by
  obtain ⟨⟨fs, hu⟩, hi⟩ := Try.req_str
  exact yieldsIf_load_mid hw 40 y rfl x 3 hx (qc r).toList _ (fun w h => midR (hS w h)) hu rfl hi
end

section
variable (w : World)
theorem rfail_eq {x : Nat} {r : Rq} {t : Int} (hB : Rs w x 1 r t (t + 1)) (h0 : 0 ≤ t) (h1 : t ≤ 100000) : Calls Try.prog 21 #[.pointer (some ⟨x, 0, none⟩)] w fun e w' => e = .returned (.int .i64 0) ∧ Fr (fun k => k = x) w w' ∧ Rs w' x 2 r (t + 1) (t + 1) := by
  have HB := Lib.hid hB
  have c0 : w.cell? ⟨x, 0, none⟩ = some (.int .i64 1) := hB.cell 0
  have c1 : w.cell? ⟨x, 1, none⟩ = some (.int .i64 t) := hB.cell 1
  have c2 : w.cell? ⟨x, 2, none⟩ = some (.int .i64 (t + 1)) := hB.cell 2
  have f0 : w.frozen? ⟨x, 0, none⟩ = false := hB.frozen 0
  have f1 : w.frozen? ⟨x, 1, none⟩ = false := hB.frozen 1
  clear hB
  go_enter Try.func21, Try.ntmps21
  go_wp2_with fail
  go_quiet (fail)
  go_wp2_with fail
  go_ret
  exact ⟨rfl, Fr.setCell (S := fun k => k = x) (Fr.drewN (Fr.setCell (S := fun k => k = x) (Fr.refl _ _) (fun _ => rfl) _) _) (fun _ => rfl) _, Rs.phase (Bk.drewN (Rs.tries HB.out _) _) 2⟩
theorem rfail_ne {x : Nat} {r : Rq} {t b : Int} (hB : Rs w x 1 r t b) (h0 : 0 ≤ t) (h1 : t ≤ 100000) (hb : (t + 1 == b) = false) : Calls Try.prog 21 #[.pointer (some ⟨x, 0, none⟩)] w fun e w' => e = .returned (.int .i64 0) ∧ Fr (fun k => k = x) w w' ∧ Rs w' x 1 r (t + 1) b := by
  have HB := Lib.hid hB
  have c0 : w.cell? ⟨x, 0, none⟩ = some (.int .i64 1) := hB.cell 0
  have c1 : w.cell? ⟨x, 1, none⟩ = some (.int .i64 t) := hB.cell 1
  have c2 : w.cell? ⟨x, 2, none⟩ = some (.int .i64 b) := hB.cell 2
  have f0 : w.frozen? ⟨x, 0, none⟩ = false := hB.frozen 0
  have f1 : w.frozen? ⟨x, 1, none⟩ = false := hB.frozen 1
  clear hB
  go_enter Try.func21, Try.ntmps21
  go_wp2_with fail
  go_quiet (fail)
  go_wp2_with fail
  go_ret
  exact ⟨rfl, Fr.drewN (Fr.setCell (S := fun k => k = x) (Fr.refl _ _) (fun _ => rfl) _) _, Bk.drewN (Rs.tries HB.out _) _⟩
theorem rfail_ok {x : Nat} {r : Rq} {t b : Int} (hB : Rs w x 1 r t b) (h0 : 0 ≤ t) (h1 : t ≤ 100000) (hb : t < b) : Calls Try.prog 21 #[.pointer (some ⟨x, 0, none⟩)] w fun e w' => e = .returned (.int .i64 0) ∧ Fr (fun k => k = x) w w' ∧ Rs w' x (fphase t b) r (t + 1) b := by
  unfold fphase
  by_cases h : t + 1 = b
  · subst h
    rw [if_pos (Int.le_refl _)]
    exact rfail_eq w hB h0 h1
  · rw [if_neg (by omega)]
    exact rfail_ne w hB h0 h1 (by simpa using h)
theorem rfail_bad {x : Nat} {p : Int} {r : Rq} {t b : Int} (hB : Rs w x p r t b) (hp : p ≠ 1) : Calls Try.prog 21 #[.pointer (some ⟨x, 0, none⟩)] w fun e w' => e = .returned (.int .i64 10) ∧ Fr Nil w w' := by
  have c0 : w.cell? ⟨x, 0, none⟩ = some (.int .i64 p) := hB.cell 0
  have n0 : (p == 1) = false := by simpa using hp
  clear hB hp
  go_enter Try.func21, Try.ntmps21
  go_wp2_with fail
  go_ret
  exact ⟨rfl, Fr.refl _ _⟩
theorem rgrant_ok {x : Nat} {r : Rq} {t b : Int} (hB : Rs w x 2 r t b) : Calls Try.prog 23 #[.pointer (some ⟨x, 0, none⟩)] w fun e w' => e = .returned (.int .i64 0) ∧ Fr (fun k => k = x) w w' ∧ Rs w' x 3 r t b := by
  have HB := Lib.hid hB
  have c0 : w.cell? ⟨x, 0, none⟩ = some (.int .i64 2) := hB.cell 0
  have f0 : w.frozen? ⟨x, 0, none⟩ = false := hB.frozen 0
  clear hB
  go_enter Try.func23, Try.ntmps23
  go_wp2_with fail
  go_ret
  exact ⟨rfl, Fr.setCell (S := fun k => k = x) (Fr.refl _ _) (fun _ => rfl) _, Rs.phase HB.out 3⟩
theorem rgrant_bad {x : Nat} {p : Int} {r : Rq} {t b : Int} (hB : Rs w x p r t b) (hp : p ≠ 2) : Calls Try.prog 23 #[.pointer (some ⟨x, 0, none⟩)] w fun e w' => e = .returned (.int .i64 10) ∧ Fr Nil w w' := by
  have c0 : w.cell? ⟨x, 0, none⟩ = some (.int .i64 p) := hB.cell 0
  have n0 : (p == 2) = false := by simpa using hp
  clear hB hp
  go_enter Try.func23, Try.ntmps23
  go_wp2_with fail
  go_ret
  exact ⟨rfl, Fr.refl _ _⟩
theorem rfinish_bad {x : Nat} {p : Int} {r : Rq} {t b : Int} (hB : Rs w x p r t b) (h1 : p ≠ 1) (h3 : p ≠ 3) : Calls Try.prog 25 #[.pointer (some ⟨x, 0, none⟩)] w fun e w' => e = .returned (.tuple #[.agg (qc zQ), .int .i64 10]) ∧ Fr Nil w w' := by
  have HA := Lib.hid (Bk.new w 40 #[.int .i64 0, .int .i64 0, .int .i64 0, .int .i64 0, .int .i64 0, .int .i64 0, .int .i64 0, .int .i64 0, .int .i64 0, .int .i64 0, .int .i64 0, .int .i64 0, .int .i64 0, .int .i64 0, .int .i64 0, .int .i64 0, .int .i64 0, .int .i64 0])
  have G0 := Lib.hid ((Fr.refl Nil w).alloc (.cells #[.int .i64 0, .int .i64 0, .int .i64 0, .int .i64 0, .int .i64 0, .int .i64 0, .int .i64 0, .int .i64 0, .int .i64 0, .int .i64 0, .int .i64 0, .int .i64 0, .int .i64 0, .int .i64 0, .int .i64 0, .int .i64 0, .int .i64 0, .int .i64 0] 40))
  have c0 : (w.alloc (.cells #[.int .i64 0, .int .i64 0, .int .i64 0, .int .i64 0, .int .i64 0, .int .i64 0, .int .i64 0, .int .i64 0, .int .i64 0, .int .i64 0, .int .i64 0, .int .i64 0, .int .i64 0, .int .i64 0, .int .i64 0, .int .i64 0, .int .i64 0, .int .i64 0] 40)).cell? ⟨x, 0, none⟩ = some (.int .i64 p) := (hB.alloc _).cell 0
  have n1 : (p == 1) = false := by simpa using h1
  have n3 : (p == 3) = false := by simpa using h3
  have m1 : (p != 1) = true := by simpa using h1
  have m3 : (p != 3) = true := by simpa using h3
  clear hB h1 h3
  go_enter Try.func25, Try.ntmps25
  go_wp2_with (first
    | (with_reducible refine wpList_storeQ (x := .tmp 2) (y := .tmp 17) (q := zQ) ?_ ?_ HA.out ?_ ?_); rfl; rfl; rfl; intro w1 hb1 hf1; have HA1 := Lib.hid hb1; have HF1 := Lib.hid (G0.out.then hf1 (fun k hk hlt => by omega)); clear hb1 hf1)
  exact bodyPost_ret (v := .tuple #[.agg (qc zQ), .int .i64 10]) (res_run2 rfl rfl Try.req_str HA1.out rfl rfl) rfl ⟨rfl, HF1.out⟩
theorem rfinish_1 {x : Nat} {r : Rq} {t b : Int} (hB : Rs w x 1 r t b) : Calls Try.prog 25 #[.pointer (some ⟨x, 0, none⟩)] w fun e w' => e = .returned (.tuple #[.agg (qc r), .int .i64 0]) ∧ Fr (fun k => k = x) w w' ∧ Rs w' x 0 zQ t b := by
  have hx := hB.lt
  have HA := Lib.hid ((Bk.new w 40 #[.int .i64 0, .int .i64 0, .int .i64 0, .int .i64 0, .int .i64 0, .int .i64 0, .int .i64 0, .int .i64 0, .int .i64 0, .int .i64 0, .int .i64 0, .int .i64 0, .int .i64 0, .int .i64 0, .int .i64 0, .int .i64 0, .int .i64 0, .int .i64 0]).alloc (.cells #[.int .i64 0, .int .i64 0, .int .i64 0, .int .i64 0, .int .i64 0, .int .i64 0, .int .i64 0, .int .i64 0, .int .i64 0, .int .i64 0, .int .i64 0, .int .i64 0, .int .i64 0, .int .i64 0, .int .i64 0, .int .i64 0, .int .i64 0, .int .i64 0] 40))
  have HS := Lib.hid (hB.alloc (.cells #[.int .i64 0, .int .i64 0, .int .i64 0, .int .i64 0, .int .i64 0, .int .i64 0, .int .i64 0, .int .i64 0, .int .i64 0, .int .i64 0, .int .i64 0, .int .i64 0, .int .i64 0, .int .i64 0, .int .i64 0, .int .i64 0, .int .i64 0, .int .i64 0] 40))
  have HS1 := Lib.hid ((hB.alloc (.cells #[.int .i64 0, .int .i64 0, .int .i64 0, .int .i64 0, .int .i64 0, .int .i64 0, .int .i64 0, .int .i64 0, .int .i64 0, .int .i64 0, .int .i64 0, .int .i64 0, .int .i64 0, .int .i64 0, .int .i64 0, .int .i64 0, .int .i64 0, .int .i64 0] 40)).alloc (.cells #[.int .i64 0, .int .i64 0, .int .i64 0, .int .i64 0, .int .i64 0, .int .i64 0, .int .i64 0, .int .i64 0, .int .i64 0, .int .i64 0, .int .i64 0, .int .i64 0, .int .i64 0, .int .i64 0, .int .i64 0, .int .i64 0, .int .i64 0, .int .i64 0] 40))
  have HX1 := Lib.hid (new' (g := w.heap.size + 1) (w := w.alloc (.cells #[.int .i64 0, .int .i64 0, .int .i64 0, .int .i64 0, .int .i64 0, .int .i64 0, .int .i64 0, .int .i64 0, .int .i64 0, .int .i64 0, .int .i64 0, .int .i64 0, .int .i64 0, .int .i64 0, .int .i64 0, .int .i64 0, .int .i64 0, .int .i64 0] 40)) (t := 40) (cs := #[.int .i64 0, .int .i64 0, .int .i64 0, .int .i64 0, .int .i64 0, .int .i64 0, .int .i64 0, .int .i64 0, .int .i64 0, .int .i64 0, .int .i64 0, .int .i64 0, .int .i64 0, .int .i64 0, .int .i64 0, .int .i64 0, .int .i64 0, .int .i64 0]) (by simp))
  have G0 := Lib.hid (((Fr.refl (fun k => k = x) w).alloc (.cells #[.int .i64 0, .int .i64 0, .int .i64 0, .int .i64 0, .int .i64 0, .int .i64 0, .int .i64 0, .int .i64 0, .int .i64 0, .int .i64 0, .int .i64 0, .int .i64 0, .int .i64 0, .int .i64 0, .int .i64 0, .int .i64 0, .int .i64 0, .int .i64 0] 40)).alloc (.cells #[.int .i64 0, .int .i64 0, .int .i64 0, .int .i64 0, .int .i64 0, .int .i64 0, .int .i64 0, .int .i64 0, .int .i64 0, .int .i64 0, .int .i64 0, .int .i64 0, .int .i64 0, .int .i64 0, .int .i64 0, .int .i64 0, .int .i64 0, .int .i64 0] 40))
  have c0 : (w.alloc (.cells #[.int .i64 0, .int .i64 0, .int .i64 0, .int .i64 0, .int .i64 0, .int .i64 0, .int .i64 0, .int .i64 0, .int .i64 0, .int .i64 0, .int .i64 0, .int .i64 0, .int .i64 0, .int .i64 0, .int .i64 0, .int .i64 0, .int .i64 0, .int .i64 0] 40)).cell? ⟨x, 0, none⟩ = some (.int .i64 1) := (hB.alloc _).cell 0
  clear hB
  go_enter Try.func25, Try.ntmps25
  go_upto_region 4 with (first
    | (with_reducible refine wpList_loadR (dst := some 21) ?_ HS.out ?_); rfl
    | (with_reducible refine wpList_storeQ (x := .tmp 4) (y := .tmp 21) (q := r) ?_ ?_ HX1.out ?_ ?_); rfl; rfl; rfl; intro w1 hb1 hf1; have HX2 := Lib.hid hb1; have HS2 := Lib.hid (HS1.out.fr hf1 (by omega)); have HA2 := Lib.hid (HA.out.fr hf1 (by omega)); have HF2 := Lib.hid (G0.out.then hf1 (fun k hk hlt => by omega)); clear hb1 hf1)
  have f0 : w1.frozen? ⟨x, 0, none⟩ = false := HS2.out.frozen 0
  have d0 : w1.cell? ⟨x, 0, none⟩ = some (.int .i64 1) := HS2.out.cell 0
  go_wp2_with (first
    | (with_reducible refine wpList_storeR (y := .tmp 28) (z := .tmp 24) (q := zQ) ?_ ?_ (Rs.phase HS2.out 0) ?_); rfl; rfl; intro w2 hb2 hf2; have HS3 := Lib.hid hb2; have HF3a := Lib.hid (Fr.then (S := fun k => k = x) (Fr.setCell (S := fun k => k = x) (p := ⟨x, 0, none⟩) (Fr.refl (fun k => k = x) w1) (fun _ => rfl) (.int .i64 0)) hf2 (fun k hk _ => hk)); have HX3 := Lib.hid (HX2.out.fr HF3a.out (by omega)); have HA3 := Lib.hid (HA2.out.fr HF3a.out (by omega)); have HF3 := Lib.hid (HF2.out.trans HF3a.out); clear hb2 hf2
    | (with_reducible refine wpList_loadQ (dst := some 29) ?_ HX3.out ?_); rfl
    | (with_reducible refine wpList_storeQ (x := .tmp 2) (y := .tmp 29) (q := r) ?_ ?_ HA3.out ?_ ?_); rfl; rfl; rfl; intro w3 hb3 hf3; have HA4 := Lib.hid hb3; have HS4 := Lib.hid (HS3.out.fr hf3 (by omega)); have HF4 := Lib.hid (HF3.out.then hf3 (fun k hk hlt => by omega)); clear hb3 hf3)
  exact bodyPost_ret (v := .tuple #[.agg (qc r), .int .i64 0]) (res_run2 rfl rfl Try.req_str HA4.out rfl rfl) rfl ⟨rfl, HF4.out, HS4.out⟩
theorem rfinish_3 {x : Nat} {r : Rq} {t b : Int} (hB : Rs w x 3 r t b) : Calls Try.prog 25 #[.pointer (some ⟨x, 0, none⟩)] w fun e w' => e = .returned (.tuple #[.agg (qc r), .int .i64 0]) ∧ Fr (fun k => k = x) w w' ∧ Rs w' x 0 zQ t b := by
  have hx := hB.lt
  have HA := Lib.hid ((Bk.new w 40 #[.int .i64 0, .int .i64 0, .int .i64 0, .int .i64 0, .int .i64 0, .int .i64 0, .int .i64 0, .int .i64 0, .int .i64 0, .int .i64 0, .int .i64 0, .int .i64 0, .int .i64 0, .int .i64 0, .int .i64 0, .int .i64 0, .int .i64 0, .int .i64 0]).alloc (.cells #[.int .i64 0, .int .i64 0, .int .i64 0, .int .i64 0, .int .i64 0, .int .i64 0, .int .i64 0, .int .i64 0, .int .i64 0, .int .i64 0, .int .i64 0, .int .i64 0, .int .i64 0, .int .i64 0, .int .i64 0, .int .i64 0, .int .i64 0, .int .i64 0] 40))
  have HS := Lib.hid (hB.alloc (.cells #[.int .i64 0, .int .i64 0, .int .i64 0, .int .i64 0, .int .i64 0, .int .i64 0, .int .i64 0, .int .i64 0, .int .i64 0, .int .i64 0, .int .i64 0, .int .i64 0, .int .i64 0, .int .i64 0, .int .i64 0, .int .i64 0, .int .i64 0, .int .i64 0] 40))
  have HS1 := Lib.hid ((hB.alloc (.cells #[.int .i64 0, .int .i64 0, .int .i64 0, .int .i64 0, .int .i64 0, .int .i64 0, .int .i64 0, .int .i64 0, .int .i64 0, .int .i64 0, .int .i64 0, .int .i64 0, .int .i64 0, .int .i64 0, .int .i64 0, .int .i64 0, .int .i64 0, .int .i64 0] 40)).alloc (.cells #[.int .i64 0, .int .i64 0, .int .i64 0, .int .i64 0, .int .i64 0, .int .i64 0, .int .i64 0, .int .i64 0, .int .i64 0, .int .i64 0, .int .i64 0, .int .i64 0, .int .i64 0, .int .i64 0, .int .i64 0, .int .i64 0, .int .i64 0, .int .i64 0] 40))
  have HX1 := Lib.hid (new' (g := w.heap.size + 1) (w := w.alloc (.cells #[.int .i64 0, .int .i64 0, .int .i64 0, .int .i64 0, .int .i64 0, .int .i64 0, .int .i64 0, .int .i64 0, .int .i64 0, .int .i64 0, .int .i64 0, .int .i64 0, .int .i64 0, .int .i64 0, .int .i64 0, .int .i64 0, .int .i64 0, .int .i64 0] 40)) (t := 40) (cs := #[.int .i64 0, .int .i64 0, .int .i64 0, .int .i64 0, .int .i64 0, .int .i64 0, .int .i64 0, .int .i64 0, .int .i64 0, .int .i64 0, .int .i64 0, .int .i64 0, .int .i64 0, .int .i64 0, .int .i64 0, .int .i64 0, .int .i64 0, .int .i64 0]) (by simp))
  have G0 := Lib.hid (((Fr.refl (fun k => k = x) w).alloc (.cells #[.int .i64 0, .int .i64 0, .int .i64 0, .int .i64 0, .int .i64 0, .int .i64 0, .int .i64 0, .int .i64 0, .int .i64 0, .int .i64 0, .int .i64 0, .int .i64 0, .int .i64 0, .int .i64 0, .int .i64 0, .int .i64 0, .int .i64 0, .int .i64 0] 40)).alloc (.cells #[.int .i64 0, .int .i64 0, .int .i64 0, .int .i64 0, .int .i64 0, .int .i64 0, .int .i64 0, .int .i64 0, .int .i64 0, .int .i64 0, .int .i64 0, .int .i64 0, .int .i64 0, .int .i64 0, .int .i64 0, .int .i64 0, .int .i64 0, .int .i64 0] 40))
  have c0 : (w.alloc (.cells #[.int .i64 0, .int .i64 0, .int .i64 0, .int .i64 0, .int .i64 0, .int .i64 0, .int .i64 0, .int .i64 0, .int .i64 0, .int .i64 0, .int .i64 0, .int .i64 0, .int .i64 0, .int .i64 0, .int .i64 0, .int .i64 0, .int .i64 0, .int .i64 0] 40)).cell? ⟨x, 0, none⟩ = some (.int .i64 3) := (hB.alloc _).cell 0
  clear hB
  go_enter Try.func25, Try.ntmps25
  go_upto_region 4 with (first
    | (with_reducible refine wpList_loadR (dst := some 21) ?_ HS.out ?_); rfl
    | (with_reducible refine wpList_storeQ (x := .tmp 4) (y := .tmp 21) (q := r) ?_ ?_ HX1.out ?_ ?_); rfl; rfl; rfl; intro w1 hb1 hf1; have HX2 := Lib.hid hb1; have HS2 := Lib.hid (HS1.out.fr hf1 (by omega)); have HA2 := Lib.hid (HA.out.fr hf1 (by omega)); have HF2 := Lib.hid (G0.out.then hf1 (fun k hk hlt => by omega)); clear hb1 hf1)
  have f0 : w1.frozen? ⟨x, 0, none⟩ = false := HS2.out.frozen 0
  have d0 : w1.cell? ⟨x, 0, none⟩ = some (.int .i64 3) := HS2.out.cell 0
  go_wp2_with (first
    | (with_reducible refine wpList_storeR (y := .tmp 28) (z := .tmp 24) (q := zQ) ?_ ?_ (Rs.phase HS2.out 0) ?_); rfl; rfl; intro w2 hb2 hf2; have HS3 := Lib.hid hb2; have HF3a := Lib.hid (Fr.then (S := fun k => k = x) (Fr.setCell (S := fun k => k = x) (p := ⟨x, 0, none⟩) (Fr.refl (fun k => k = x) w1) (fun _ => rfl) (.int .i64 0)) hf2 (fun k hk _ => hk)); have HX3 := Lib.hid (HX2.out.fr HF3a.out (by omega)); have HA3 := Lib.hid (HA2.out.fr HF3a.out (by omega)); have HF3 := Lib.hid (HF2.out.trans HF3a.out); clear hb2 hf2
    | (with_reducible refine wpList_loadQ (dst := some 29) ?_ HX3.out ?_); rfl
    | (with_reducible refine wpList_storeQ (x := .tmp 2) (y := .tmp 29) (q := r) ?_ ?_ HA3.out ?_ ?_); rfl; rfl; rfl; intro w3 hb3 hf3; have HA4 := Lib.hid hb3; have HS4 := Lib.hid (HS3.out.fr hf3 (by omega)); have HF4 := Lib.hid (HF3.out.then hf3 (fun k hk hlt => by omega)); clear hb3 hf3)
  exact bodyPost_ret (v := .tuple #[.agg (qc r), .int .i64 0]) (res_run2 rfl rfl Try.req_str HA4.out rfl rfl) rfl ⟨rfl, HF4.out, HS4.out⟩
theorem rfinish_ok {x : Nat} {p : Int} {r : Rq} {t b : Int} (hB : Rs w x p r t b) (hp : p ∈ [1, 3]) : Calls Try.prog 25 #[.pointer (some ⟨x, 0, none⟩)] w fun e w' => e = .returned (.tuple #[.agg (qc r), .int .i64 0]) ∧ Fr (fun k => k = x) w w' ∧ Rs w' x 0 zQ t b := by
  simp at hp
  rcases hp with rfl | rfl
  · exact rfinish_1 w hB
  · exact rfinish_3 w hB
theorem rabort_z0 {x : Nat} {r : Rq} {t b : Int} (hB : Rs w x 0 r t b) : Calls Try.prog 27 #[.pointer (some ⟨x, 0, none⟩)] w fun e w' => e = .returned (.tuple #[.agg (qc zQ), .int .i64 0]) ∧ Fr (fun k => k = x) w w' ∧ Rs w' x 4 zQ t b := by
  have hx := hB.lt
  have HA := Lib.hid (Bk.new w 40 #[.int .i64 0, .int .i64 0, .int .i64 0, .int .i64 0, .int .i64 0, .int .i64 0, .int .i64 0, .int .i64 0, .int .i64 0, .int .i64 0, .int .i64 0, .int .i64 0, .int .i64 0, .int .i64 0, .int .i64 0, .int .i64 0, .int .i64 0, .int .i64 0])
  have G0 := Lib.hid ((Fr.refl (fun k => k = x) w).alloc (.cells #[.int .i64 0, .int .i64 0, .int .i64 0, .int .i64 0, .int .i64 0, .int .i64 0, .int .i64 0, .int .i64 0, .int .i64 0, .int .i64 0, .int .i64 0, .int .i64 0, .int .i64 0, .int .i64 0, .int .i64 0, .int .i64 0, .int .i64 0, .int .i64 0] 40))
  have HS := Lib.hid (hB.alloc (.cells #[.int .i64 0, .int .i64 0, .int .i64 0, .int .i64 0, .int .i64 0, .int .i64 0, .int .i64 0, .int .i64 0, .int .i64 0, .int .i64 0, .int .i64 0, .int .i64 0, .int .i64 0, .int .i64 0, .int .i64 0, .int .i64 0, .int .i64 0, .int .i64 0] 40))
  clear hB
  go_enter Try.func27, Try.ntmps27
  go_upto_region 1 with fail
  · have KS := Lib.hid (fun W (h : Fr Nil (w.alloc (.cells #[.int .i64 0, .int .i64 0, .int .i64 0, .int .i64 0, .int .i64 0, .int .i64 0, .int .i64 0, .int .i64 0, .int .i64 0, .int .i64 0, .int .i64 0, .int .i64 0, .int .i64 0, .int .i64 0, .int .i64 0, .int .i64 0, .int .i64 0, .int .i64 0] 40)) W) => (show Rs W x 0 r t b from Bk.fr HS.out h id))
    refine wp_region_held (S := fun w' => Rs w' x 0 r t b) (by kernel_rfl) ?_
    have fz0 : Fr Nil (w.alloc (.cells #[.int .i64 0, .int .i64 0, .int .i64 0, .int .i64 0, .int .i64 0, .int .i64 0, .int .i64 0, .int .i64 0, .int .i64 0, .int .i64 0, .int .i64 0, .int .i64 0, .int .i64 0, .int .i64 0, .int .i64 0, .int .i64 0, .int .i64 0, .int .i64 0] 40)) (w.alloc (.cells #[.int .i64 0, .int .i64 0, .int .i64 0, .int .i64 0, .int .i64 0, .int .i64 0, .int .i64 0, .int .i64 0, .int .i64 0, .int .i64 0, .int .i64 0, .int .i64 0, .int .i64 0, .int .i64 0, .int .i64 0, .int .i64 0, .int .i64 0, .int .i64 0] 40)).drew := (Fr.refl Nil (w.alloc (.cells #[.int .i64 0, .int .i64 0, .int .i64 0, .int .i64 0, .int .i64 0, .int .i64 0, .int .i64 0, .int .i64 0, .int .i64 0, .int .i64 0, .int .i64 0, .int .i64 0, .int .i64 0, .int .i64 0, .int .i64 0, .int .i64 0, .int .i64 0, .int .i64 0] 40))).drew
    change wpAnyH _ _ _ _ _ _ _ _ (World.drew _)
    refine wpAnyH_take (i := 0) (v := .pointer (some ⟨x, 0, none⟩)) rfl (by kernel_rfl) (by kernel_rfl) (by kernel_rfl) (fun _ _ _ h => h) (Or.inl ⟨by rfl, fun w' hw' => by first | (go_simp; done) | (go_simp; rfl)⟩) (KS.out _ fz0) ?_
    (try simp only [Act.put, List.getElem_toArray, List.getElem_cons_zero, List.getElem_cons_succ, List.setIfInBounds_toArray, List.set_cons_zero, List.set_cons_succ])
    refine wpAnyH_take (i := 1) (v := .pointer (some ⟨x, 0, none⟩)) rfl (by kernel_rfl) (by kernel_rfl) (by kernel_rfl) (fun _ _ _ h => h) (Or.inl ⟨by rfl, fun w' hw' => by first | (go_simp; done) | (go_simp; rfl)⟩) (KS.out _ fz0) ?_
    (try simp only [Act.put, List.getElem_toArray, List.getElem_cons_zero, List.getElem_cons_succ, List.setIfInBounds_toArray, List.set_cons_zero, List.set_cons_succ])
    refine wpAnyH_take (i := 2) (v := .pointer (some ⟨x, 3, none⟩)) rfl (by kernel_rfl) (by kernel_rfl) (by kernel_rfl) (fun _ _ _ h => h) (Or.inl ⟨by rfl, fun w' hw' => by first | (go_simp; done) | (go_simp; rfl)⟩) (KS.out _ fz0) ?_
    (try simp only [Act.put, List.getElem_toArray, List.getElem_cons_zero, List.getElem_cons_succ, List.setIfInBounds_toArray, List.set_cons_zero, List.set_cons_succ])
    refine wpAnyH_take (i := 3) (v := .agg (qc r)) rfl (by kernel_rfl) (by kernel_rfl) (by kernel_rfl) (fun _ _ _ h => h) (yields_loadR (by rfl) rfl (fun _ h => h)) (KS.out _ fz0) ?_
    (try simp only [Act.put, List.getElem_toArray, List.getElem_cons_zero, List.getElem_cons_succ, List.setIfInBounds_toArray, List.set_cons_zero, List.set_cons_succ])
    refine wpAnyH_take (i := 4) (v := .pointer (some ⟨x, 0, none⟩)) rfl (by kernel_rfl) (by kernel_rfl) (by kernel_rfl) (fun _ _ _ h => h) (Or.inl ⟨by rfl, fun w' hw' => by first | (go_simp; done) | (go_simp; rfl)⟩) (KS.out _ fz0) ?_
    (try simp only [Act.put, List.getElem_toArray, List.getElem_cons_zero, List.getElem_cons_succ, List.setIfInBounds_toArray, List.set_cons_zero, List.set_cons_succ])
    refine wpAnyH_take (i := 5) (v := .pointer (some ⟨x, 0, none⟩)) rfl (by kernel_rfl) (by kernel_rfl) (by kernel_rfl) (fun _ _ _ h => h) (Or.inl ⟨by rfl, fun w' hw' => by first | (go_simp; done) | (go_simp; rfl)⟩) (KS.out _ fz0) ?_
    (try simp only [Act.put, List.getElem_toArray, List.getElem_cons_zero, List.getElem_cons_succ, List.setIfInBounds_toArray, List.set_cons_zero, List.set_cons_succ])
    refine wpAnyH_take (i := 6) (v := .pointer (some ⟨x, 0, none⟩)) rfl (by kernel_rfl) (by kernel_rfl) (by kernel_rfl) (fun _ _ _ h => h) (Or.inl ⟨by rfl, fun w' hw' => by first | (go_simp; done) | (go_simp; rfl)⟩) (KS.out _ fz0) ?_
    (try simp only [Act.put, List.getElem_toArray, List.getElem_cons_zero, List.getElem_cons_succ, List.setIfInBounds_toArray, List.set_cons_zero, List.set_cons_succ])
    refine wpAnyH_take (i := 7) (v := .int .i64 0) rfl (by kernel_rfl) (by kernel_rfl) (by kernel_rfl) (fun _ _ _ h => h) (Or.inl ⟨by rfl, fun w' hw' => by have c0 := Bk.cell hw' 0; simp [rc] at c0; first | (go_simp; done) | (go_simp; rfl)⟩) (KS.out _ fz0) ?_
    (try simp only [Act.put, List.getElem_toArray, List.getElem_cons_zero, List.getElem_cons_succ, List.setIfInBounds_toArray, List.set_cons_zero, List.set_cons_succ])
    refine wpAnyH_all (rs := [8]) (by kernel_rfl) (by simp) (fun i hi => ?_)
    obtain rfl : i = 8 := by simpa using hi
    refine wpOp_step rfl (fun K hK => ?_)
    go_simp
    have fz1 : Fr Nil (w.alloc (.cells #[.int .i64 0, .int .i64 0, .int .i64 0, .int .i64 0, .int .i64 0, .int .i64 0, .int .i64 0, .int .i64 0, .int .i64 0, .int .i64 0, .int .i64 0, .int .i64 0, .int .i64 0, .int .i64 0, .int .i64 0, .int .i64 0, .int .i64 0, .int .i64 0] 40)) ((w.alloc (.cells #[.int .i64 0, .int .i64 0, .int .i64 0, .int .i64 0, .int .i64 0, .int .i64 0, .int .i64 0, .int .i64 0, .int .i64 0, .int .i64 0, .int .i64 0, .int .i64 0, .int .i64 0, .int .i64 0, .int .i64 0, .int .i64 0, .int .i64 0, .int .i64 0] 40)).drew.alloc (.cells #[.int .i64 0, .int .i64 0, .int .i64 0, .int .i64 0, .int .i64 0, .int .i64 0, .int .i64 0, .int .i64 0, .int .i64 0, .int .i64 0, .int .i64 0, .int .i64 0, .int .i64 0, .int .i64 0, .int .i64 0, .int .i64 0, .int .i64 0, .int .i64 0] 40)) := fz0.alloc _
    refine hK _ _ ⟨(KS.out _ fz1), ?_⟩
    clear hK K hi
    (try simp only [Act.put, List.getElem_toArray, List.getElem_cons_zero, List.getElem_cons_succ, List.setIfInBounds_toArray, List.set_cons_zero, List.set_cons_succ])
    refine wpAnyH_all (rs := [9]) (by kernel_rfl) (by simp) (fun i hi => ?_)
    obtain rfl : i = 9 := by simpa using hi
    refine wpOp_storeB (g := w.heap.size + 1) (cs := qc r) rfl rfl rfl Try.req_str (new' (g := w.heap.size + 1) (w := (w.alloc (.cells #[.int .i64 0, .int .i64 0, .int .i64 0, .int .i64 0, .int .i64 0, .int .i64 0, .int .i64 0, .int .i64 0, .int .i64 0, .int .i64 0, .int .i64 0, .int .i64 0, .int .i64 0, .int .i64 0, .int .i64 0, .int .i64 0, .int .i64 0, .int .i64 0] 40)).drew) (t := 40) (cs := #[.int .i64 0, .int .i64 0, .int .i64 0, .int .i64 0, .int .i64 0, .int .i64 0, .int .i64 0, .int .i64 0, .int .i64 0, .int .i64 0, .int .i64 0, .int .i64 0, .int .i64 0, .int .i64 0, .int .i64 0, .int .i64 0, .int .i64 0, .int .i64 0]) (by simp)) rfl rfl (qc_one _) ?_
    intro w1 hb1 hf1
    have fz2 : Fr Nil (w.alloc (.cells #[.int .i64 0, .int .i64 0, .int .i64 0, .int .i64 0, .int .i64 0, .int .i64 0, .int .i64 0, .int .i64 0, .int .i64 0, .int .i64 0, .int .i64 0, .int .i64 0, .int .i64 0, .int .i64 0, .int .i64 0, .int .i64 0, .int .i64 0, .int .i64 0] 40)) w1 := fz1.then hf1 (fun k hk hlt => by simp at hlt; omega)
    refine ⟨(KS.out _ fz2), ?_⟩
    have HX2 := Lib.hid hb1
    try simp only [Act.put]
    refine wpAnyH_take (i := 10) (v := .int .i64 0) rfl (by kernel_rfl) (by kernel_rfl) (by kernel_rfl) (fun _ _ _ h => h) (Or.inl ⟨by rfl, fun w' hw' => by first | (go_simp; done) | (go_simp; rfl)⟩) (KS.out _ fz2) ?_
    (try simp only [Act.put, List.getElem_toArray, List.getElem_cons_zero, List.getElem_cons_succ, List.setIfInBounds_toArray, List.set_cons_zero, List.set_cons_succ])
    refine wpAnyH_done (by kernel_rfl) ?_ _
    have HS2 := Lib.hid (KS.out _ fz2)
    have HA2 := Lib.hid (HA.out.fr fz2 id)
    have HF2 := Lib.hid (G0.out.trans fz2.of_nil)
    clear KS
    go_upto_region 4 with (first
      | (with_reducible refine wpList_storeQ (x := .tmp 4) (y := .tmp 20) (q := zQ) ?_ ?_ HX2.out ?_ ?_); rfl; rfl; rfl; intro w2 hb2 hf2; have HX3 := Lib.hid hb2; have HS3 := Lib.hid (HS2.out.fr hf2 (by omega)); have HA3 := Lib.hid (HA2.out.fr hf2 (by omega)); have HF3 := Lib.hid (HF2.out.then hf2 (fun k hk hlt => by omega)); clear hb2 hf2)
    have f0 : w2.frozen? ⟨x, 0, none⟩ = false := HS3.out.frozen 0
    have d0 : w2.cell? ⟨x, 0, none⟩ = some (.int .i64 0) := HS3.out.cell 0
    go_wp2_with (first
      | (with_reducible refine wpList_storeR (y := .tmp 27) (z := .tmp 23) (q := zQ) ?_ ?_ (Rs.phase HS3.out 4) ?_); rfl; rfl; intro w4 hb4 hf4; have HS4 := Lib.hid hb4; have HF4a := Lib.hid (Fr.then (S := fun k => k = x) (Fr.setCell (S := fun k => k = x) (p := ⟨x, 0, none⟩) (Fr.refl (fun k => k = x) w2) (fun _ => rfl) (.int .i64 4)) hf4 (fun k hk _ => hk)); have HX4 := Lib.hid (HX3.out.fr HF4a.out (by omega)); have HA4 := Lib.hid (HA3.out.fr HF4a.out (by omega)); have HF4 := Lib.hid (HF3.out.trans HF4a.out); clear hb4 hf4
      | (with_reducible refine wpList_loadQ (dst := some 28) (q := zQ) ?_ HX4.out ?_); rfl
      | (with_reducible refine wpList_storeQ (x := .tmp 2) (y := .tmp 28) (q := zQ) ?_ ?_ HA4.out ?_ ?_); rfl; rfl; rfl; intro w5 hb5 hf5; have HA5 := Lib.hid hb5; have HS5 := Lib.hid (HS4.out.fr hf5 (by omega)); have HF5 := Lib.hid (HF4.out.then hf5 (fun k hk hlt => by omega)); clear hb5 hf5)
    exact bodyPost_ret (v := .tuple #[.agg (qc zQ), .int .i64 0]) (res_run2 rfl rfl Try.req_str HA5.out rfl rfl) rfl ⟨rfl, HF5.out, HS5.out⟩
theorem rabort_z4 {x : Nat} {r : Rq} {t b : Int} (hB : Rs w x 4 r t b) : Calls Try.prog 27 #[.pointer (some ⟨x, 0, none⟩)] w fun e w' => e = .returned (.tuple #[.agg (qc zQ), .int .i64 0]) ∧ Fr (fun k => k = x) w w' ∧ Rs w' x 4 zQ t b := by
  have hx := hB.lt
  have HA := Lib.hid (Bk.new w 40 #[.int .i64 0, .int .i64 0, .int .i64 0, .int .i64 0, .int .i64 0, .int .i64 0, .int .i64 0, .int .i64 0, .int .i64 0, .int .i64 0, .int .i64 0, .int .i64 0, .int .i64 0, .int .i64 0, .int .i64 0, .int .i64 0, .int .i64 0, .int .i64 0])
  have G0 := Lib.hid ((Fr.refl (fun k => k = x) w).alloc (.cells #[.int .i64 0, .int .i64 0, .int .i64 0, .int .i64 0, .int .i64 0, .int .i64 0, .int .i64 0, .int .i64 0, .int .i64 0, .int .i64 0, .int .i64 0, .int .i64 0, .int .i64 0, .int .i64 0, .int .i64 0, .int .i64 0, .int .i64 0, .int .i64 0] 40))
  have HS := Lib.hid (hB.alloc (.cells #[.int .i64 0, .int .i64 0, .int .i64 0, .int .i64 0, .int .i64 0, .int .i64 0, .int .i64 0, .int .i64 0, .int .i64 0, .int .i64 0, .int .i64 0, .int .i64 0, .int .i64 0, .int .i64 0, .int .i64 0, .int .i64 0, .int .i64 0, .int .i64 0] 40))
  clear hB
  go_enter Try.func27, Try.ntmps27
  go_upto_region 1 with fail
  · have KS := Lib.hid (fun W (h : Fr Nil (w.alloc (.cells #[.int .i64 0, .int .i64 0, .int .i64 0, .int .i64 0, .int .i64 0, .int .i64 0, .int .i64 0, .int .i64 0, .int .i64 0, .int .i64 0, .int .i64 0, .int .i64 0, .int .i64 0, .int .i64 0, .int .i64 0, .int .i64 0, .int .i64 0, .int .i64 0] 40)) W) => (show Rs W x 4 r t b from Bk.fr HS.out h id))
    refine wp_region_held (S := fun w' => Rs w' x 4 r t b) (by kernel_rfl) ?_
    have fz0 : Fr Nil (w.alloc (.cells #[.int .i64 0, .int .i64 0, .int .i64 0, .int .i64 0, .int .i64 0, .int .i64 0, .int .i64 0, .int .i64 0, .int .i64 0, .int .i64 0, .int .i64 0, .int .i64 0, .int .i64 0, .int .i64 0, .int .i64 0, .int .i64 0, .int .i64 0, .int .i64 0] 40)) (w.alloc (.cells #[.int .i64 0, .int .i64 0, .int .i64 0, .int .i64 0, .int .i64 0, .int .i64 0, .int .i64 0, .int .i64 0, .int .i64 0, .int .i64 0, .int .i64 0, .int .i64 0, .int .i64 0, .int .i64 0, .int .i64 0, .int .i64 0, .int .i64 0, .int .i64 0] 40)).drew := (Fr.refl Nil (w.alloc (.cells #[.int .i64 0, .int .i64 0, .int .i64 0, .int .i64 0, .int .i64 0, .int .i64 0, .int .i64 0, .int .i64 0, .int .i64 0, .int .i64 0, .int .i64 0, .int .i64 0, .int .i64 0, .int .i64 0, .int .i64 0, .int .i64 0, .int .i64 0, .int .i64 0] 40))).drew
    change wpAnyH _ _ _ _ _ _ _ _ (World.drew _)
    refine wpAnyH_take (i := 0) (v := .pointer (some ⟨x, 0, none⟩)) rfl (by kernel_rfl) (by kernel_rfl) (by kernel_rfl) (fun _ _ _ h => h) (Or.inl ⟨by rfl, fun w' hw' => by first | (go_simp; done) | (go_simp; rfl)⟩) (KS.out _ fz0) ?_
    (try simp only [Act.put, List.getElem_toArray, List.getElem_cons_zero, List.getElem_cons_succ, List.setIfInBounds_toArray, List.set_cons_zero, List.set_cons_succ])
    refine wpAnyH_take (i := 1) (v := .pointer (some ⟨x, 0, none⟩)) rfl (by kernel_rfl) (by kernel_rfl) (by kernel_rfl) (fun _ _ _ h => h) (Or.inl ⟨by rfl, fun w' hw' => by first | (go_simp; done) | (go_simp; rfl)⟩) (KS.out _ fz0) ?_
    (try simp only [Act.put, List.getElem_toArray, List.getElem_cons_zero, List.getElem_cons_succ, List.setIfInBounds_toArray, List.set_cons_zero, List.set_cons_succ])
    refine wpAnyH_take (i := 2) (v := .pointer (some ⟨x, 3, none⟩)) rfl (by kernel_rfl) (by kernel_rfl) (by kernel_rfl) (fun _ _ _ h => h) (Or.inl ⟨by rfl, fun w' hw' => by first | (go_simp; done) | (go_simp; rfl)⟩) (KS.out _ fz0) ?_
    (try simp only [Act.put, List.getElem_toArray, List.getElem_cons_zero, List.getElem_cons_succ, List.setIfInBounds_toArray, List.set_cons_zero, List.set_cons_succ])
    refine wpAnyH_take (i := 3) (v := .agg (qc r)) rfl (by kernel_rfl) (by kernel_rfl) (by kernel_rfl) (fun _ _ _ h => h) (yields_loadR (by rfl) rfl (fun _ h => h)) (KS.out _ fz0) ?_
    (try simp only [Act.put, List.getElem_toArray, List.getElem_cons_zero, List.getElem_cons_succ, List.setIfInBounds_toArray, List.set_cons_zero, List.set_cons_succ])
    refine wpAnyH_take (i := 4) (v := .pointer (some ⟨x, 0, none⟩)) rfl (by kernel_rfl) (by kernel_rfl) (by kernel_rfl) (fun _ _ _ h => h) (Or.inl ⟨by rfl, fun w' hw' => by first | (go_simp; done) | (go_simp; rfl)⟩) (KS.out _ fz0) ?_
    (try simp only [Act.put, List.getElem_toArray, List.getElem_cons_zero, List.getElem_cons_succ, List.setIfInBounds_toArray, List.set_cons_zero, List.set_cons_succ])
    refine wpAnyH_take (i := 5) (v := .pointer (some ⟨x, 0, none⟩)) rfl (by kernel_rfl) (by kernel_rfl) (by kernel_rfl) (fun _ _ _ h => h) (Or.inl ⟨by rfl, fun w' hw' => by first | (go_simp; done) | (go_simp; rfl)⟩) (KS.out _ fz0) ?_
    (try simp only [Act.put, List.getElem_toArray, List.getElem_cons_zero, List.getElem_cons_succ, List.setIfInBounds_toArray, List.set_cons_zero, List.set_cons_succ])
    refine wpAnyH_take (i := 6) (v := .pointer (some ⟨x, 0, none⟩)) rfl (by kernel_rfl) (by kernel_rfl) (by kernel_rfl) (fun _ _ _ h => h) (Or.inl ⟨by rfl, fun w' hw' => by first | (go_simp; done) | (go_simp; rfl)⟩) (KS.out _ fz0) ?_
    (try simp only [Act.put, List.getElem_toArray, List.getElem_cons_zero, List.getElem_cons_succ, List.setIfInBounds_toArray, List.set_cons_zero, List.set_cons_succ])
    refine wpAnyH_take (i := 7) (v := .int .i64 4) rfl (by kernel_rfl) (by kernel_rfl) (by kernel_rfl) (fun _ _ _ h => h) (Or.inl ⟨by rfl, fun w' hw' => by have c0 := Bk.cell hw' 0; simp [rc] at c0; first | (go_simp; done) | (go_simp; rfl)⟩) (KS.out _ fz0) ?_
    (try simp only [Act.put, List.getElem_toArray, List.getElem_cons_zero, List.getElem_cons_succ, List.setIfInBounds_toArray, List.set_cons_zero, List.set_cons_succ])
    refine wpAnyH_all (rs := [8]) (by kernel_rfl) (by simp) (fun i hi => ?_)
    obtain rfl : i = 8 := by simpa using hi
    refine wpOp_step rfl (fun K hK => ?_)
    go_simp
    have fz1 : Fr Nil (w.alloc (.cells #[.int .i64 0, .int .i64 0, .int .i64 0, .int .i64 0, .int .i64 0, .int .i64 0, .int .i64 0, .int .i64 0, .int .i64 0, .int .i64 0, .int .i64 0, .int .i64 0, .int .i64 0, .int .i64 0, .int .i64 0, .int .i64 0, .int .i64 0, .int .i64 0] 40)) ((w.alloc (.cells #[.int .i64 0, .int .i64 0, .int .i64 0, .int .i64 0, .int .i64 0, .int .i64 0, .int .i64 0, .int .i64 0, .int .i64 0, .int .i64 0, .int .i64 0, .int .i64 0, .int .i64 0, .int .i64 0, .int .i64 0, .int .i64 0, .int .i64 0, .int .i64 0] 40)).drew.alloc (.cells #[.int .i64 0, .int .i64 0, .int .i64 0, .int .i64 0, .int .i64 0, .int .i64 0, .int .i64 0, .int .i64 0, .int .i64 0, .int .i64 0, .int .i64 0, .int .i64 0, .int .i64 0, .int .i64 0, .int .i64 0, .int .i64 0, .int .i64 0, .int .i64 0] 40)) := fz0.alloc _
    refine hK _ _ ⟨(KS.out _ fz1), ?_⟩
    clear hK K hi
    (try simp only [Act.put, List.getElem_toArray, List.getElem_cons_zero, List.getElem_cons_succ, List.setIfInBounds_toArray, List.set_cons_zero, List.set_cons_succ])
    refine wpAnyH_all (rs := [9]) (by kernel_rfl) (by simp) (fun i hi => ?_)
    obtain rfl : i = 9 := by simpa using hi
    refine wpOp_storeB (g := w.heap.size + 1) (cs := qc r) rfl rfl rfl Try.req_str (new' (g := w.heap.size + 1) (w := (w.alloc (.cells #[.int .i64 0, .int .i64 0, .int .i64 0, .int .i64 0, .int .i64 0, .int .i64 0, .int .i64 0, .int .i64 0, .int .i64 0, .int .i64 0, .int .i64 0, .int .i64 0, .int .i64 0, .int .i64 0, .int .i64 0, .int .i64 0, .int .i64 0, .int .i64 0] 40)).drew) (t := 40) (cs := #[.int .i64 0, .int .i64 0, .int .i64 0, .int .i64 0, .int .i64 0, .int .i64 0, .int .i64 0, .int .i64 0, .int .i64 0, .int .i64 0, .int .i64 0, .int .i64 0, .int .i64 0, .int .i64 0, .int .i64 0, .int .i64 0, .int .i64 0, .int .i64 0]) (by simp)) rfl rfl (qc_one _) ?_
    intro w1 hb1 hf1
    have fz2 : Fr Nil (w.alloc (.cells #[.int .i64 0, .int .i64 0, .int .i64 0, .int .i64 0, .int .i64 0, .int .i64 0, .int .i64 0, .int .i64 0, .int .i64 0, .int .i64 0, .int .i64 0, .int .i64 0, .int .i64 0, .int .i64 0, .int .i64 0, .int .i64 0, .int .i64 0, .int .i64 0] 40)) w1 := fz1.then hf1 (fun k hk hlt => by simp at hlt; omega)
    refine ⟨(KS.out _ fz2), ?_⟩
    have HX2 := Lib.hid hb1
    try simp only [Act.put]
    refine wpAnyH_take (i := 10) (v := .int .i64 4) rfl (by kernel_rfl) (by kernel_rfl) (by kernel_rfl) (fun _ _ _ h => h) (Or.inl ⟨by rfl, fun w' hw' => by first | (go_simp; done) | (go_simp; rfl)⟩) (KS.out _ fz2) ?_
    (try simp only [Act.put, List.getElem_toArray, List.getElem_cons_zero, List.getElem_cons_succ, List.setIfInBounds_toArray, List.set_cons_zero, List.set_cons_succ])
    refine wpAnyH_done (by kernel_rfl) ?_ _
    have HS2 := Lib.hid (KS.out _ fz2)
    have HA2 := Lib.hid (HA.out.fr fz2 id)
    have HF2 := Lib.hid (G0.out.trans fz2.of_nil)
    clear KS
    go_upto_region 4 with (first
      | (with_reducible refine wpList_storeQ (x := .tmp 4) (y := .tmp 20) (q := zQ) ?_ ?_ HX2.out ?_ ?_); rfl; rfl; rfl; intro w2 hb2 hf2; have HX3 := Lib.hid hb2; have HS3 := Lib.hid (HS2.out.fr hf2 (by omega)); have HA3 := Lib.hid (HA2.out.fr hf2 (by omega)); have HF3 := Lib.hid (HF2.out.then hf2 (fun k hk hlt => by omega)); clear hb2 hf2)
    have f0 : w2.frozen? ⟨x, 0, none⟩ = false := HS3.out.frozen 0
    have d0 : w2.cell? ⟨x, 0, none⟩ = some (.int .i64 4) := HS3.out.cell 0
    go_wp2_with (first
      | (with_reducible refine wpList_storeR (y := .tmp 27) (z := .tmp 23) (q := zQ) ?_ ?_ (Rs.phase HS3.out 4) ?_); rfl; rfl; intro w4 hb4 hf4; have HS4 := Lib.hid hb4; have HF4a := Lib.hid (Fr.then (S := fun k => k = x) (Fr.setCell (S := fun k => k = x) (p := ⟨x, 0, none⟩) (Fr.refl (fun k => k = x) w2) (fun _ => rfl) (.int .i64 4)) hf4 (fun k hk _ => hk)); have HX4 := Lib.hid (HX3.out.fr HF4a.out (by omega)); have HA4 := Lib.hid (HA3.out.fr HF4a.out (by omega)); have HF4 := Lib.hid (HF3.out.trans HF4a.out); clear hb4 hf4
      | (with_reducible refine wpList_loadQ (dst := some 28) (q := zQ) ?_ HX4.out ?_); rfl
      | (with_reducible refine wpList_storeQ (x := .tmp 2) (y := .tmp 28) (q := zQ) ?_ ?_ HA4.out ?_ ?_); rfl; rfl; rfl; intro w5 hb5 hf5; have HA5 := Lib.hid hb5; have HS5 := Lib.hid (HS4.out.fr hf5 (by omega)); have HF5 := Lib.hid (HF4.out.then hf5 (fun k hk hlt => by omega)); clear hb5 hf5)
    exact bodyPost_ret (v := .tuple #[.agg (qc zQ), .int .i64 0]) (res_run2 rfl rfl Try.req_str HA5.out rfl rfl) rfl ⟨rfl, HF5.out, HS5.out⟩
theorem rabort_any {x : Nat} {p : Int} {r : Rq} {t b : Int} (hB : Rs w x p r t b) (h0 : p ≠ 0) (h4 : p ≠ 4) : Calls Try.prog 27 #[.pointer (some ⟨x, 0, none⟩)] w fun e w' => e = .returned (.tuple #[.agg (qc r), .int .i64 p]) ∧ Fr (fun k => k = x) w w' ∧ Rs w' x 4 zQ t b := by
  have hx := hB.lt
  have n0 : (p == 0) = false := by simpa using h0
  have n4 : (p == 4) = false := by simpa using h4
  clear h0 h4
  have HA := Lib.hid (Bk.new w 40 #[.int .i64 0, .int .i64 0, .int .i64 0, .int .i64 0, .int .i64 0, .int .i64 0, .int .i64 0, .int .i64 0, .int .i64 0, .int .i64 0, .int .i64 0, .int .i64 0, .int .i64 0, .int .i64 0, .int .i64 0, .int .i64 0, .int .i64 0, .int .i64 0])
  have G0 := Lib.hid ((Fr.refl (fun k => k = x) w).alloc (.cells #[.int .i64 0, .int .i64 0, .int .i64 0, .int .i64 0, .int .i64 0, .int .i64 0, .int .i64 0, .int .i64 0, .int .i64 0, .int .i64 0, .int .i64 0, .int .i64 0, .int .i64 0, .int .i64 0, .int .i64 0, .int .i64 0, .int .i64 0, .int .i64 0] 40))
  have HS := Lib.hid (hB.alloc (.cells #[.int .i64 0, .int .i64 0, .int .i64 0, .int .i64 0, .int .i64 0, .int .i64 0, .int .i64 0, .int .i64 0, .int .i64 0, .int .i64 0, .int .i64 0, .int .i64 0, .int .i64 0, .int .i64 0, .int .i64 0, .int .i64 0, .int .i64 0, .int .i64 0] 40))
  clear hB
  go_enter Try.func27, Try.ntmps27
  go_upto_region 1 with fail
  · have KS := Lib.hid (fun W (h : Fr Nil (w.alloc (.cells #[.int .i64 0, .int .i64 0, .int .i64 0, .int .i64 0, .int .i64 0, .int .i64 0, .int .i64 0, .int .i64 0, .int .i64 0, .int .i64 0, .int .i64 0, .int .i64 0, .int .i64 0, .int .i64 0, .int .i64 0, .int .i64 0, .int .i64 0, .int .i64 0] 40)) W) => (show Rs W x p r t b from Bk.fr HS.out h id))
    refine wp_region_held (S := fun w' => Rs w' x p r t b) (by kernel_rfl) ?_
    have fz0 : Fr Nil (w.alloc (.cells #[.int .i64 0, .int .i64 0, .int .i64 0, .int .i64 0, .int .i64 0, .int .i64 0, .int .i64 0, .int .i64 0, .int .i64 0, .int .i64 0, .int .i64 0, .int .i64 0, .int .i64 0, .int .i64 0, .int .i64 0, .int .i64 0, .int .i64 0, .int .i64 0] 40)) (w.alloc (.cells #[.int .i64 0, .int .i64 0, .int .i64 0, .int .i64 0, .int .i64 0, .int .i64 0, .int .i64 0, .int .i64 0, .int .i64 0, .int .i64 0, .int .i64 0, .int .i64 0, .int .i64 0, .int .i64 0, .int .i64 0, .int .i64 0, .int .i64 0, .int .i64 0] 40)).drew := (Fr.refl Nil (w.alloc (.cells #[.int .i64 0, .int .i64 0, .int .i64 0, .int .i64 0, .int .i64 0, .int .i64 0, .int .i64 0, .int .i64 0, .int .i64 0, .int .i64 0, .int .i64 0, .int .i64 0, .int .i64 0, .int .i64 0, .int .i64 0, .int .i64 0, .int .i64 0, .int .i64 0] 40))).drew
    change wpAnyH _ _ _ _ _ _ _ _ (World.drew _)
    refine wpAnyH_take (i := 0) (v := .pointer (some ⟨x, 0, none⟩)) rfl (by kernel_rfl) (by kernel_rfl) (by kernel_rfl) (fun _ _ _ h => h) (Or.inl ⟨by rfl, fun w' hw' => by first | (go_simp; done) | (go_simp; rfl)⟩) (KS.out _ fz0) ?_
    (try simp only [Act.put, List.getElem_toArray, List.getElem_cons_zero, List.getElem_cons_succ, List.setIfInBounds_toArray, List.set_cons_zero, List.set_cons_succ])
    refine wpAnyH_take (i := 1) (v := .pointer (some ⟨x, 0, none⟩)) rfl (by kernel_rfl) (by kernel_rfl) (by kernel_rfl) (fun _ _ _ h => h) (Or.inl ⟨by rfl, fun w' hw' => by first | (go_simp; done) | (go_simp; rfl)⟩) (KS.out _ fz0) ?_
    (try simp only [Act.put, List.getElem_toArray, List.getElem_cons_zero, List.getElem_cons_succ, List.setIfInBounds_toArray, List.set_cons_zero, List.set_cons_succ])
    refine wpAnyH_take (i := 2) (v := .pointer (some ⟨x, 3, none⟩)) rfl (by kernel_rfl) (by kernel_rfl) (by kernel_rfl) (fun _ _ _ h => h) (Or.inl ⟨by rfl, fun w' hw' => by first | (go_simp; done) | (go_simp; rfl)⟩) (KS.out _ fz0) ?_
    (try simp only [Act.put, List.getElem_toArray, List.getElem_cons_zero, List.getElem_cons_succ, List.setIfInBounds_toArray, List.set_cons_zero, List.set_cons_succ])
    refine wpAnyH_take (i := 3) (v := .agg (qc r)) rfl (by kernel_rfl) (by kernel_rfl) (by kernel_rfl) (fun _ _ _ h => h) (yields_loadR (by rfl) rfl (fun _ h => h)) (KS.out _ fz0) ?_
    (try simp only [Act.put, List.getElem_toArray, List.getElem_cons_zero, List.getElem_cons_succ, List.setIfInBounds_toArray, List.set_cons_zero, List.set_cons_succ])
    refine wpAnyH_take (i := 4) (v := .pointer (some ⟨x, 0, none⟩)) rfl (by kernel_rfl) (by kernel_rfl) (by kernel_rfl) (fun _ _ _ h => h) (Or.inl ⟨by rfl, fun w' hw' => by first | (go_simp; done) | (go_simp; rfl)⟩) (KS.out _ fz0) ?_
    (try simp only [Act.put, List.getElem_toArray, List.getElem_cons_zero, List.getElem_cons_succ, List.setIfInBounds_toArray, List.set_cons_zero, List.set_cons_succ])
    refine wpAnyH_take (i := 5) (v := .pointer (some ⟨x, 0, none⟩)) rfl (by kernel_rfl) (by kernel_rfl) (by kernel_rfl) (fun _ _ _ h => h) (Or.inl ⟨by rfl, fun w' hw' => by first | (go_simp; done) | (go_simp; rfl)⟩) (KS.out _ fz0) ?_
    (try simp only [Act.put, List.getElem_toArray, List.getElem_cons_zero, List.getElem_cons_succ, List.setIfInBounds_toArray, List.set_cons_zero, List.set_cons_succ])
    refine wpAnyH_take (i := 6) (v := .pointer (some ⟨x, 0, none⟩)) rfl (by kernel_rfl) (by kernel_rfl) (by kernel_rfl) (fun _ _ _ h => h) (Or.inl ⟨by rfl, fun w' hw' => by first | (go_simp; done) | (go_simp; rfl)⟩) (KS.out _ fz0) ?_
    (try simp only [Act.put, List.getElem_toArray, List.getElem_cons_zero, List.getElem_cons_succ, List.setIfInBounds_toArray, List.set_cons_zero, List.set_cons_succ])
    refine wpAnyH_take (i := 7) (v := .int .i64 p) rfl (by kernel_rfl) (by kernel_rfl) (by kernel_rfl) (fun _ _ _ h => h) (Or.inl ⟨by rfl, fun w' hw' => by have c0 := Bk.cell hw' 0; simp [rc] at c0; first | (go_simp; done) | (go_simp; rfl)⟩) (KS.out _ fz0) ?_
    (try simp only [Act.put, List.getElem_toArray, List.getElem_cons_zero, List.getElem_cons_succ, List.setIfInBounds_toArray, List.set_cons_zero, List.set_cons_succ])
    refine wpAnyH_all (rs := [8]) (by kernel_rfl) (by simp) (fun i hi => ?_)
    obtain rfl : i = 8 := by simpa using hi
    refine wpOp_step rfl (fun K hK => ?_)
    go_simp
    have fz1 : Fr Nil (w.alloc (.cells #[.int .i64 0, .int .i64 0, .int .i64 0, .int .i64 0, .int .i64 0, .int .i64 0, .int .i64 0, .int .i64 0, .int .i64 0, .int .i64 0, .int .i64 0, .int .i64 0, .int .i64 0, .int .i64 0, .int .i64 0, .int .i64 0, .int .i64 0, .int .i64 0] 40)) ((w.alloc (.cells #[.int .i64 0, .int .i64 0, .int .i64 0, .int .i64 0, .int .i64 0, .int .i64 0, .int .i64 0, .int .i64 0, .int .i64 0, .int .i64 0, .int .i64 0, .int .i64 0, .int .i64 0, .int .i64 0, .int .i64 0, .int .i64 0, .int .i64 0, .int .i64 0] 40)).drew.alloc (.cells #[.int .i64 0, .int .i64 0, .int .i64 0, .int .i64 0, .int .i64 0, .int .i64 0, .int .i64 0, .int .i64 0, .int .i64 0, .int .i64 0, .int .i64 0, .int .i64 0, .int .i64 0, .int .i64 0, .int .i64 0, .int .i64 0, .int .i64 0, .int .i64 0] 40)) := fz0.alloc _
    refine hK _ _ ⟨(KS.out _ fz1), ?_⟩
    clear hK K hi
    (try simp only [Act.put, List.getElem_toArray, List.getElem_cons_zero, List.getElem_cons_succ, List.setIfInBounds_toArray, List.set_cons_zero, List.set_cons_succ])
    refine wpAnyH_all (rs := [9]) (by kernel_rfl) (by simp) (fun i hi => ?_)
    obtain rfl : i = 9 := by simpa using hi
    refine wpOp_storeB (g := w.heap.size + 1) (cs := qc r) rfl rfl rfl Try.req_str (new' (g := w.heap.size + 1) (w := (w.alloc (.cells #[.int .i64 0, .int .i64 0, .int .i64 0, .int .i64 0, .int .i64 0, .int .i64 0, .int .i64 0, .int .i64 0, .int .i64 0, .int .i64 0, .int .i64 0, .int .i64 0, .int .i64 0, .int .i64 0, .int .i64 0, .int .i64 0, .int .i64 0, .int .i64 0] 40)).drew) (t := 40) (cs := #[.int .i64 0, .int .i64 0, .int .i64 0, .int .i64 0, .int .i64 0, .int .i64 0, .int .i64 0, .int .i64 0, .int .i64 0, .int .i64 0, .int .i64 0, .int .i64 0, .int .i64 0, .int .i64 0, .int .i64 0, .int .i64 0, .int .i64 0, .int .i64 0]) (by simp)) rfl rfl (qc_one _) ?_
    intro w1 hb1 hf1
    have fz2 : Fr Nil (w.alloc (.cells #[.int .i64 0, .int .i64 0, .int .i64 0, .int .i64 0, .int .i64 0, .int .i64 0, .int .i64 0, .int .i64 0, .int .i64 0, .int .i64 0, .int .i64 0, .int .i64 0, .int .i64 0, .int .i64 0, .int .i64 0, .int .i64 0, .int .i64 0, .int .i64 0] 40)) w1 := fz1.then hf1 (fun k hk hlt => by simp at hlt; omega)
    refine ⟨(KS.out _ fz2), ?_⟩
    have HX2 := Lib.hid hb1
    try simp only [Act.put]
    refine wpAnyH_take (i := 10) (v := .int .i64 p) rfl (by kernel_rfl) (by kernel_rfl) (by kernel_rfl) (fun _ _ _ h => h) (Or.inl ⟨by rfl, fun w' hw' => by first | (go_simp; done) | (go_simp; rfl)⟩) (KS.out _ fz2) ?_
    (try simp only [Act.put, List.getElem_toArray, List.getElem_cons_zero, List.getElem_cons_succ, List.setIfInBounds_toArray, List.set_cons_zero, List.set_cons_succ])
    refine wpAnyH_done (by kernel_rfl) ?_ _
    have HS2 := Lib.hid (KS.out _ fz2)
    have HA2 := Lib.hid (HA.out.fr fz2 id)
    have HF2 := Lib.hid (G0.out.trans fz2.of_nil)
    clear KS
    go_upto_region 4 with fail
    have f0 : w1.frozen? ⟨x, 0, none⟩ = false := HS2.out.frozen 0
    have d0 : w1.cell? ⟨x, 0, none⟩ = some (.int .i64 p) := HS2.out.cell 0
    go_wp2_with (first
      | (with_reducible refine wpList_storeR (y := .tmp 27) (z := .tmp 23) (q := zQ) ?_ ?_ (Rs.phase HS2.out 4) ?_); rfl; rfl; intro w4 hb4 hf4; have HS4 := Lib.hid hb4; have HF4a := Lib.hid (Fr.then (S := fun k => k = x) (Fr.setCell (S := fun k => k = x) (p := ⟨x, 0, none⟩) (Fr.refl (fun k => k = x) w1) (fun _ => rfl) (.int .i64 4)) hf4 (fun k hk _ => hk)); have HX4 := Lib.hid (HX2.out.fr HF4a.out (by omega)); have HA4 := Lib.hid (HA2.out.fr HF4a.out (by omega)); have HF4 := Lib.hid (HF2.out.trans HF4a.out); clear hb4 hf4
      | (with_reducible refine wpList_loadQ (dst := some 28) (q := r) ?_ HX4.out ?_); rfl
      | (with_reducible refine wpList_storeQ (x := .tmp 2) (y := .tmp 28) (q := r) ?_ ?_ HA4.out ?_ ?_); rfl; rfl; rfl; intro w5 hb5 hf5; have HA5 := Lib.hid hb5; have HS5 := Lib.hid (HS4.out.fr hf5 (by omega)); have HF5 := Lib.hid (HF4.out.then hf5 (fun k hk hlt => by omega)); clear hb5 hf5)
    exact bodyPost_ret (v := .tuple #[.agg (qc r), .int .i64 p]) (res_run2 rfl rfl Try.req_str HA5.out rfl rfl) rfl ⟨rfl, HF5.out, HS5.out⟩
theorem rstart_gone {x : Nat} {r q : Rq} {t b : Int} (hB : Rs w x 4 q t b) : Calls Try.prog 28 #[.pointer (some ⟨x, 0, none⟩), .agg (qc r)] w fun e w' => e = .returned (.int .i64 10) ∧ Fr Nil w w' := by
  have hx := hB.lt
  have HS := Lib.hid (hB.alloc (.cells (qc r) 40))
  have HA := Lib.hid (Bk.new w 40 (qc r))
  have G0 := Lib.hid ((Fr.refl Nil w).alloc (.cells (qc r) 40))
  have c0 : (w.alloc (.cells (qc r) 40)).cell? ⟨x, 0, none⟩ = some (.int .i64 4) := (hB.alloc _).cell 0
  clear hB
  go_enter Try.func28, Try.ntmps28
  go_wp2_with fail
  go_ret
  exact ⟨rfl, G0.out⟩
theorem rstart_form {x : Nat} {p : Int} {r q : Rq} {t b : Int} (hB : Rs w x p q t b) (h4 : p ≠ 4) (gr : ¬ GoodQ r) : Calls Try.prog 28 #[.pointer (some ⟨x, 0, none⟩), .agg (qc r)] w fun e w' => e = .returned (.int .i64 8) ∧ Fr Nil w w' := by
  have hx := hB.lt
  have HS := Lib.hid (hB.alloc (.cells (qc r) 40))
  have HA := Lib.hid (Bk.new w 40 (qc r))
  have G0 := Lib.hid ((Fr.refl Nil w).alloc (.cells (qc r) 40))
  have c0 : (w.alloc (.cells (qc r) 40)).cell? ⟨x, 0, none⟩ = some (.int .i64 p) := (hB.alloc _).cell 0
  have n4 : (p == 4) = false := by simpa using h4
  clear h4
  have KG := Lib.hid (fun W => (refgood_any W r).mono fun e w' h => (show e = .returned (.bool false) ∧ Fr Nil W w' from ⟨tells_no h.1 gr, h.2⟩))
  clear gr
  clear hB
  go_enter Try.func28, Try.ntmps28
  go_wp2_with (first
    | (with_reducible refine wpList_loadQ (dst := some 10) ?_ HA.out ?_); rfl)
  refine (KG.out _).mono ?_
  rintro e w1 ⟨rfl, hf1⟩
  have HS1 := Lib.hid (HS.out.fr hf1 id)
  have HA1 := Lib.hid (HA.out.fr hf1 id)
  have HF1 := Lib.hid (G0.out.trans hf1)
  have d0 : w1.cell? ⟨x, 0, none⟩ = some (.int .i64 p) := HS1.out.cell 0
  clear hf1
  go_wp2_with fail
  go_ret
  exact ⟨rfl, HF1.out⟩
theorem rstart_busy {x : Nat} {p : Int} {r q : Rq} {t b : Int} (hB : Rs w x p q t b) (h4 : p ≠ 4) (h0 : p ≠ 0) (gr : GoodQ r) : Calls Try.prog 28 #[.pointer (some ⟨x, 0, none⟩), .agg (qc r)] w fun e w' => e = .returned (.int .i64 7) ∧ Fr Nil w w' := by
  have hx := hB.lt
  have HS := Lib.hid (hB.alloc (.cells (qc r) 40))
  have HA := Lib.hid (Bk.new w 40 (qc r))
  have G0 := Lib.hid ((Fr.refl Nil w).alloc (.cells (qc r) 40))
  have c0 : (w.alloc (.cells (qc r) 40)).cell? ⟨x, 0, none⟩ = some (.int .i64 p) := (hB.alloc _).cell 0
  have n4 : (p == 4) = false := by simpa using h4
  clear h4
  have n0 : (p == 0) = false := by simpa using h0
  clear h0
  have KG := Lib.hid (fun W => (refgood_any W r).mono fun e w' h => (show e = .returned (.bool true) ∧ Fr Nil W w' from ⟨tells_yes h.1 gr, h.2⟩))
  clear gr
  clear hB
  go_enter Try.func28, Try.ntmps28
  go_wp2_with (first
    | (with_reducible refine wpList_loadQ (dst := some 10) ?_ HA.out ?_); rfl)
  refine (KG.out _).mono ?_
  rintro e w1 ⟨rfl, hf1⟩
  have HS1 := Lib.hid (HS.out.fr hf1 id)
  have HA1 := Lib.hid (HA.out.fr hf1 id)
  have HF1 := Lib.hid (G0.out.trans hf1)
  have d0 : w1.cell? ⟨x, 0, none⟩ = some (.int .i64 p) := HS1.out.cell 0
  clear hf1
  go_wp2_with fail
  go_ret
  exact ⟨rfl, HF1.out⟩
theorem rstart_ok1 {x : Nat} {r q : Rq} {t b : Int} (hB : Rs w x 0 q t b) (gr : GoodQ r) (hk : (r.k == 2) = true) (hb : 0 < b) : Calls Try.prog 28 #[.pointer (some ⟨x, 0, none⟩), .agg (qc r)] w fun e w' => e = .returned (.int .i64 0) ∧ Fr (fun k => k = x) w w' ∧ Rs w' x 1 (onlyQ r) 0 b := by
  have hx := hB.lt
  have HS := Lib.hid (hB.alloc (.cells (qc r) 40))
  have HA := Lib.hid (Bk.new w 40 (qc r))
  have G0 := Lib.hid ((Fr.refl Nil w).alloc (.cells (qc r) 40))
  have c0 : (w.alloc (.cells (qc r) 40)).cell? ⟨x, 0, none⟩ = some (.int .i64 0) := (hB.alloc _).cell 0
  have KG := Lib.hid (fun W => (refgood_any W r).mono fun e w' h => (show e = .returned (.bool true) ∧ Fr Nil W w' from ⟨tells_yes h.1 gr, h.2⟩))
  have KO := Lib.hid (fun W => refonly_any W r gr)
  generalize onlyQ r = o at *
  clear gr
  clear hB
  go_enter Try.func28, Try.ntmps28
  go_wp2_with (first
    | (with_reducible refine wpList_loadQ (dst := some 10) ?_ HA.out ?_); rfl)
  refine (KG.out _).mono ?_
  rintro e w1 ⟨rfl, hf1⟩
  have HS1 := Lib.hid (HS.out.fr hf1 id)
  have HA1 := Lib.hid (HA.out.fr hf1 id)
  have HF1 := Lib.hid (G0.out.trans hf1)
  have d0 : w1.cell? ⟨x, 0, none⟩ = some (.int .i64 0) := HS1.out.cell 0
  clear hf1
  go_wp2_with (first
    | (with_reducible refine wpList_loadQ (dst := some 21) ?_ HA1.out ?_); rfl)
  refine (KO.out _).mono ?_
  rintro e w2 ⟨rfl, hf2⟩
  have HS2 := Lib.hid (HS1.out.fr hf2 id)
  have HA2 := Lib.hid (HA1.out.fr hf2 id)
  have HF2 := Lib.hid (HF1.out.trans hf2)
  have e0 : w2.cell? ⟨x, 0, none⟩ = some (.int .i64 0) := HS2.out.cell 0
  have g0 : w2.frozen? ⟨x, 0, none⟩ = false := HS2.out.frozen 0
  clear hf2
  go_upto_region 8 with (first
    | (with_reducible refine wpList_storeR (y := .tmp 26) (z := .tmp 22) (q := o) ?_ ?_ (Rs.phase HS2.out 2) ?_); rfl; rfl; intro w3 hb3 hf3; have HS3 := Lib.hid hb3; have HFa := Lib.hid (Fr.then (S := fun k => k = x) (Fr.setCell (S := fun k => k = x) (p := ⟨x, 0, none⟩) (Fr.refl (fun k => k = x) w2) (fun _ => rfl) (.int .i64 2)) hf3 (fun k hk _ => hk)); have HA3 := Lib.hid (HA2.out.fr HFa.out (by omega)); have HF3 := Lib.hid (HF2.out.of_nil.trans HFa.out); have e1 : w3.cell? ⟨x, 1, none⟩ = some (.int .i64 t) := HS3.out.cell 1; have g1 : w3.frozen? ⟨x, 1, none⟩ = false := HS3.out.frozen 1; clear hb3 hf3)
  have e2 : w3.cell? ⟨x, 2, none⟩ = some (.int .i64 b) := HS3.out.cell 2
  have e3 : w3.cell? ⟨x, 0, none⟩ = some (.int .i64 2) := HS3.out.cell 0
  have g3 : w3.frozen? ⟨x, 0, none⟩ = false := HS3.out.frozen 0
  have ek : w3.cell? ⟨w.heap.size, 0, none⟩ = some (.int .i64 r.k) := HA3.out.cell 0
  have nx : w.heap.size ≠ x := by omega
  have nx2 : x ≠ w.heap.size := by omega
  go_wp2_with fail
  go_ret
  exact ⟨rfl, Fr.setCell (S := fun k => k = x) (Fr.setCell (S := fun k => k = x) HF3.out (fun _ => rfl) _) (fun _ => rfl) _, Rs.phase (Rs.tries HS3.out 0) 1⟩
theorem rstart_ok2 {x : Nat} {r q : Rq} {t b : Int} (hB : Rs w x 0 q t b) (gr : GoodQ r) (hk : (r.k == 2) = true) (hb : ¬ 0 < b) : Calls Try.prog 28 #[.pointer (some ⟨x, 0, none⟩), .agg (qc r)] w fun e w' => e = .returned (.int .i64 0) ∧ Fr (fun k => k = x) w w' ∧ Rs w' x 2 (onlyQ r) 0 b := by
  have hx := hB.lt
  have HS := Lib.hid (hB.alloc (.cells (qc r) 40))
  have HA := Lib.hid (Bk.new w 40 (qc r))
  have G0 := Lib.hid ((Fr.refl Nil w).alloc (.cells (qc r) 40))
  have c0 : (w.alloc (.cells (qc r) 40)).cell? ⟨x, 0, none⟩ = some (.int .i64 0) := (hB.alloc _).cell 0
  have KG := Lib.hid (fun W => (refgood_any W r).mono fun e w' h => (show e = .returned (.bool true) ∧ Fr Nil W w' from ⟨tells_yes h.1 gr, h.2⟩))
  have KO := Lib.hid (fun W => refonly_any W r gr)
  generalize onlyQ r = o at *
  clear gr
  clear hB
  go_enter Try.func28, Try.ntmps28
  go_wp2_with (first
    | (with_reducible refine wpList_loadQ (dst := some 10) ?_ HA.out ?_); rfl)
  refine (KG.out _).mono ?_
  rintro e w1 ⟨rfl, hf1⟩
  have HS1 := Lib.hid (HS.out.fr hf1 id)
  have HA1 := Lib.hid (HA.out.fr hf1 id)
  have HF1 := Lib.hid (G0.out.trans hf1)
  have d0 : w1.cell? ⟨x, 0, none⟩ = some (.int .i64 0) := HS1.out.cell 0
  clear hf1
  go_wp2_with (first
    | (with_reducible refine wpList_loadQ (dst := some 21) ?_ HA1.out ?_); rfl)
  refine (KO.out _).mono ?_
  rintro e w2 ⟨rfl, hf2⟩
  have HS2 := Lib.hid (HS1.out.fr hf2 id)
  have HA2 := Lib.hid (HA1.out.fr hf2 id)
  have HF2 := Lib.hid (HF1.out.trans hf2)
  have e0 : w2.cell? ⟨x, 0, none⟩ = some (.int .i64 0) := HS2.out.cell 0
  have g0 : w2.frozen? ⟨x, 0, none⟩ = false := HS2.out.frozen 0
  clear hf2
  go_upto_region 8 with (first
    | (with_reducible refine wpList_storeR (y := .tmp 26) (z := .tmp 22) (q := o) ?_ ?_ (Rs.phase HS2.out 2) ?_); rfl; rfl; intro w3 hb3 hf3; have HS3 := Lib.hid hb3; have HFa := Lib.hid (Fr.then (S := fun k => k = x) (Fr.setCell (S := fun k => k = x) (p := ⟨x, 0, none⟩) (Fr.refl (fun k => k = x) w2) (fun _ => rfl) (.int .i64 2)) hf3 (fun k hk _ => hk)); have HA3 := Lib.hid (HA2.out.fr HFa.out (by omega)); have HF3 := Lib.hid (HF2.out.of_nil.trans HFa.out); have e1 : w3.cell? ⟨x, 1, none⟩ = some (.int .i64 t) := HS3.out.cell 1; have g1 : w3.frozen? ⟨x, 1, none⟩ = false := HS3.out.frozen 1; clear hb3 hf3)
  have e2 : w3.cell? ⟨x, 2, none⟩ = some (.int .i64 b) := HS3.out.cell 2
  have e3 : w3.cell? ⟨x, 0, none⟩ = some (.int .i64 2) := HS3.out.cell 0
  have g3 : w3.frozen? ⟨x, 0, none⟩ = false := HS3.out.frozen 0
  have ek : w3.cell? ⟨w.heap.size, 0, none⟩ = some (.int .i64 r.k) := HA3.out.cell 0
  have nx : w.heap.size ≠ x := by omega
  have nx2 : x ≠ w.heap.size := by omega
  go_wp2_with fail
  go_ret
  exact ⟨rfl, Fr.setCell (S := fun k => k = x) HF3.out (fun _ => rfl) _, Rs.tries HS3.out 0⟩
theorem rstart_ok3 {x : Nat} {r q : Rq} {t b : Int} (hB : Rs w x 0 q t b) (gr : GoodQ r) (hk : (r.k == 2) = false) : Calls Try.prog 28 #[.pointer (some ⟨x, 0, none⟩), .agg (qc r)] w fun e w' => e = .returned (.int .i64 0) ∧ Fr (fun k => k = x) w w' ∧ Rs w' x 2 (onlyQ r) 0 b := by
  have hx := hB.lt
  have HS := Lib.hid (hB.alloc (.cells (qc r) 40))
  have HA := Lib.hid (Bk.new w 40 (qc r))
  have G0 := Lib.hid ((Fr.refl Nil w).alloc (.cells (qc r) 40))
  have c0 : (w.alloc (.cells (qc r) 40)).cell? ⟨x, 0, none⟩ = some (.int .i64 0) := (hB.alloc _).cell 0
  have KG := Lib.hid (fun W => (refgood_any W r).mono fun e w' h => (show e = .returned (.bool true) ∧ Fr Nil W w' from ⟨tells_yes h.1 gr, h.2⟩))
  have KO := Lib.hid (fun W => refonly_any W r gr)
  generalize onlyQ r = o at *
  clear gr
  clear hB
  go_enter Try.func28, Try.ntmps28
  go_wp2_with (first
    | (with_reducible refine wpList_loadQ (dst := some 10) ?_ HA.out ?_); rfl)
  refine (KG.out _).mono ?_
  rintro e w1 ⟨rfl, hf1⟩
  have HS1 := Lib.hid (HS.out.fr hf1 id)
  have HA1 := Lib.hid (HA.out.fr hf1 id)
  have HF1 := Lib.hid (G0.out.trans hf1)
  have d0 : w1.cell? ⟨x, 0, none⟩ = some (.int .i64 0) := HS1.out.cell 0
  clear hf1
  go_wp2_with (first
    | (with_reducible refine wpList_loadQ (dst := some 21) ?_ HA1.out ?_); rfl)
  refine (KO.out _).mono ?_
  rintro e w2 ⟨rfl, hf2⟩
  have HS2 := Lib.hid (HS1.out.fr hf2 id)
  have HA2 := Lib.hid (HA1.out.fr hf2 id)
  have HF2 := Lib.hid (HF1.out.trans hf2)
  have e0 : w2.cell? ⟨x, 0, none⟩ = some (.int .i64 0) := HS2.out.cell 0
  have g0 : w2.frozen? ⟨x, 0, none⟩ = false := HS2.out.frozen 0
  clear hf2
  go_upto_region 8 with (first
    | (with_reducible refine wpList_storeR (y := .tmp 26) (z := .tmp 22) (q := o) ?_ ?_ (Rs.phase HS2.out 2) ?_); rfl; rfl; intro w3 hb3 hf3; have HS3 := Lib.hid hb3; have HFa := Lib.hid (Fr.then (S := fun k => k = x) (Fr.setCell (S := fun k => k = x) (p := ⟨x, 0, none⟩) (Fr.refl (fun k => k = x) w2) (fun _ => rfl) (.int .i64 2)) hf3 (fun k hk _ => hk)); have HA3 := Lib.hid (HA2.out.fr HFa.out (by omega)); have HF3 := Lib.hid (HF2.out.of_nil.trans HFa.out); have e1 : w3.cell? ⟨x, 1, none⟩ = some (.int .i64 t) := HS3.out.cell 1; have g1 : w3.frozen? ⟨x, 1, none⟩ = false := HS3.out.frozen 1; clear hb3 hf3)
  have e2 : w3.cell? ⟨x, 2, none⟩ = some (.int .i64 b) := HS3.out.cell 2
  have e3 : w3.cell? ⟨x, 0, none⟩ = some (.int .i64 2) := HS3.out.cell 0
  have g3 : w3.frozen? ⟨x, 0, none⟩ = false := HS3.out.frozen 0
  have ek : w3.cell? ⟨w.heap.size, 0, none⟩ = some (.int .i64 r.k) := HA3.out.cell 0
  have nx : w.heap.size ≠ x := by omega
  have nx2 : x ≠ w.heap.size := by omega
  go_wp2_with fail
  go_ret
  exact ⟨rfl, Fr.setCell (S := fun k => k = x) HF3.out (fun _ => rfl) _, Rs.tries HS3.out 0⟩
theorem rstart_ok {x : Nat} {r q : Rq} {t b : Int} (hB : Rs w x 0 q t b) (gr : GoodQ r) : Calls Try.prog 28 #[.pointer (some ⟨x, 0, none⟩), .agg (qc r)] w fun e w' => e = .returned (.int .i64 0) ∧ Fr (fun k => k = x) w w' ∧ Rs w' x (fst r b) (onlyQ r) 0 b := by
  unfold fst
  by_cases hk : r.k = 2
  · by_cases hb : 0 < b
    · rw [if_pos ⟨hk, hb⟩]; exact rstart_ok1 w hB gr (by simpa using hk) hb
    · rw [if_neg (fun h => hb h.2)]; exact rstart_ok2 w hB gr (by simpa using hk) hb
  · rw [if_neg (fun h => hk h.1)]; exact rstart_ok3 w hB gr (by simpa using hk)
end
end Go.Proofs.Yteceghhjpejdnaa.SessN
