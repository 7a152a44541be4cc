/- Chapter 32: a request in the midst of a session's block; the walk of ends. -/
import Derived.Test.YteceghhjpejdnaaSessC
import Derived.Deep.MidRow
import Derived.Deep.DeepCutAuto
namespace Go.Proofs.Yteceghhjpejdnaa.SessD
open Go.RowKit Base Big Slices TrapA TrapB TrapG CodecA CodecB CodecC CodecK SessA SessB
set_option linter.unusedVariables false
set_option linter.unusedSimpArgs false

theorem mid {w : World} {g : Nat} {p : Int} {r : Rq} {t b : Int} (h : Ss w g p r t b) : w.rangeAt g 1 (qc r).toList := fun j v hv => by
  have hj : j < 18 := by
    have := (List.getElem?_eq_some_iff.1 hv).1
    simpa [qc] using this
  have h' : j = 0 ∨ j = 1 ∨ j = 2 ∨ j = 3 ∨ j = 4 ∨ j = 5 ∨ j = 6 ∨ j = 7 ∨ j = 8 ∨ j = 9 ∨ j = 10 ∨ j = 11 ∨ j = 12 ∨ j = 13 ∨ j = 14 ∨ j = 15 ∨ j = 16 ∨ j = 17 := by omega
  rcases h' with rfl | rfl | rfl | rfl | rfl | rfl | rfl | rfl | rfl | rfl | rfl | rfl | rfl | rfl | rfl | rfl | rfl | rfl <;> exact (h.cell _).trans hv
def putAll : Array Value → Nat → List Value → Array Value
  | cs, _, [] => cs
  | cs, o, v :: vs => putAll (cs.setIfInBounds o v) (o + 1) vs
theorem bk_cells {g : Nat} {t : TypeId} : ∀ (vs : List Value) (o : Nat) (w : World) (cs : Array Value), Bk w g t cs → Bk (w.setCells g o vs) g t (putAll cs o vs)
  | [], _, _, _, h => h
  | v :: vs, o, w, cs, h => bk_cells vs (o + 1) _ _ (h.put o v)
theorem fr_cells {S : Nat → Prop} {a : World} {g : Nat} (hg : g < a.heap.size → S g) : ∀ (vs : List Value) (o : Nat) (w : World), Fr S a w → Fr S a (w.setCells g o vs)
  | [], _, _, h => h
  | v :: vs, o, w, h => fr_cells hg vs (o + 1) _ (Fr.setCell (p := ⟨g, o, none⟩) h hg v)
theorem put_sc (p : Int) (r q : Rq) (t b : Int) : putAll (sc p r t b) 1 (qc q).toList = sc p q t b := by
  simp [sc, qc, putAll]
theorem there_mid {w : World} {g : Nat} {p : Int} {r : Rq} {t b : Int} (h : Ss w g p r t b) : w.there g 1 18 := fun j hj => by
  refine ⟨?_, h.frozen _⟩
  have h1 := mid h j (qc r).toList[j] (List.getElem?_eq_getElem (by simpa [qc] using hj))
  rw [h1]
  rfl

section
variable {w : World} {g : Nat} {p : Int} {r : Rq} {t b : Int}
theorem wpList_loadM {ops : Array Oper} {rest : List Oper} {a : Act} {Q : Exit → Act → World → Prop} {dst : Option Tmp} {x : Operand} {ty : TypeId} {pos : String} {aft : Array Edge}
    (hx : a.eval x = .pointer (some ⟨g, 1, none⟩)) (hB : Ss w g p r t b) (h : wpList Try.prog ops Q rest (a.put dst (.agg (qc r))) w) : wpList Try.prog ops Q (⟨dst, .load 40 x, ty, pos, aft, none⟩ :: rest) a w := by
  obtain ⟨⟨fs, hu⟩, hi⟩ := Try.req_str
  exact wpList_load_mid rfl 40 x rfl g 1 hx (qc r).toList _ (mid hB) hu rfl hi h
theorem wpList_storeM {q : Rq} {ops : Array Oper} {rest : List Oper} {a : Act} {Q : Exit → Act → World → Prop} {dst : Option Tmp} {x y : Operand} {ty : TypeId} {pos : String} {aft : Array Edge}
    (hx : a.eval x = .pointer (some ⟨g, 1, none⟩)) (hy : a.eval y = .agg (qc q)) (hB : Ss w g p r t b)
    (h : ∀ w', Ss w' g p q t b → Fr (fun k => k = g) w w' → wpList Try.prog ops Q rest (a.put dst undef) w') : wpList Try.prog ops Q (⟨dst, .store 40 x y, ty, pos, aft, none⟩ :: rest) a w := by
  obtain ⟨⟨fs, hu⟩, hi⟩ := Try.req_str
  refine wpList_store_mid rfl 40 x y rfl g 1 (qc q) hx hy (there_mid hB) hi (qc_one q) (h _ ?_ ?_)
  · have := bk_cells (qc q).toList 1 w _ hB
    rwa [put_sc] at this
  · exact fr_cells (S := fun k => k = g) (fun _ => rfl) _ _ _ (Fr.refl _ _)
end

section
variable (w : World)
theorem ends_any {g : Nat} {p n : Int} {r : Rq} {t b : Int} (hB : Ss w g p r t b) : Calls Try.prog 37 #[.pointer (some ⟨g, 0, none⟩), .int .i64 n] w fun e w' => e = .returned (.agg (qc r)) ∧ Fr (fun k => k = g) w w' ∧ Ss w' g n zQ t b := by
  have HS := Lib.hid (hB.alloc (.cells #[.int .i64 0, .int .i64 0, .int .i64 0, .int .i64 0, .int .i64 0, .int .i64 0, .int .i64 0, .int .i64 0, .int .i64 0, .int .i64 0, .int .i64 0, .int .i64 0, .int .i64 0, .int .i64 0, .int .i64 0, .int .i64 0, .int .i64 0, .int .i64 0] 40))
  have HA := Lib.hid (Bk.new w 40 #[.int .i64 0, .int .i64 0, .int .i64 0, .int .i64 0, .int .i64 0, .int .i64 0, .int .i64 0, .int .i64 0, .int .i64 0, .int .i64 0, .int .i64 0, .int .i64 0, .int .i64 0, .int .i64 0, .int .i64 0, .int .i64 0, .int .i64 0, .int .i64 0])
  have HS1 := Lib.hid ((hB.alloc (.cells #[.int .i64 0, .int .i64 0, .int .i64 0, .int .i64 0, .int .i64 0, .int .i64 0, .int .i64 0, .int .i64 0, .int .i64 0, .int .i64 0, .int .i64 0, .int .i64 0, .int .i64 0, .int .i64 0, .int .i64 0, .int .i64 0, .int .i64 0, .int .i64 0] 40)).alloc (.cells #[.int .i64 0, .int .i64 0, .int .i64 0, .int .i64 0, .int .i64 0, .int .i64 0, .int .i64 0, .int .i64 0, .int .i64 0, .int .i64 0, .int .i64 0, .int .i64 0, .int .i64 0, .int .i64 0, .int .i64 0, .int .i64 0, .int .i64 0, .int .i64 0] 40))
  have HA1 := Lib.hid ((Bk.new w 40 #[.int .i64 0, .int .i64 0, .int .i64 0, .int .i64 0, .int .i64 0, .int .i64 0, .int .i64 0, .int .i64 0, .int .i64 0, .int .i64 0, .int .i64 0, .int .i64 0, .int .i64 0, .int .i64 0, .int .i64 0, .int .i64 0, .int .i64 0, .int .i64 0]).alloc (.cells #[.int .i64 0, .int .i64 0, .int .i64 0, .int .i64 0, .int .i64 0, .int .i64 0, .int .i64 0, .int .i64 0, .int .i64 0, .int .i64 0, .int .i64 0, .int .i64 0, .int .i64 0, .int .i64 0, .int .i64 0, .int .i64 0, .int .i64 0, .int .i64 0] 40))
  have HX1 := Lib.hid (new' (g := w.heap.size + 1) (w := w.alloc (.cells #[.int .i64 0, .int .i64 0, .int .i64 0, .int .i64 0, .int .i64 0, .int .i64 0, .int .i64 0, .int .i64 0, .int .i64 0, .int .i64 0, .int .i64 0, .int .i64 0, .int .i64 0, .int .i64 0, .int .i64 0, .int .i64 0, .int .i64 0, .int .i64 0] 40)) (t := 40) (cs := #[.int .i64 0, .int .i64 0, .int .i64 0, .int .i64 0, .int .i64 0, .int .i64 0, .int .i64 0, .int .i64 0, .int .i64 0, .int .i64 0, .int .i64 0, .int .i64 0, .int .i64 0, .int .i64 0, .int .i64 0, .int .i64 0, .int .i64 0, .int .i64 0]) (by simp))
  have G0 := Lib.hid (((Fr.refl (fun k => k = g) w).alloc (.cells #[.int .i64 0, .int .i64 0, .int .i64 0, .int .i64 0, .int .i64 0, .int .i64 0, .int .i64 0, .int .i64 0, .int .i64 0, .int .i64 0, .int .i64 0, .int .i64 0, .int .i64 0, .int .i64 0, .int .i64 0, .int .i64 0, .int .i64 0, .int .i64 0] 40)).alloc (.cells #[.int .i64 0, .int .i64 0, .int .i64 0, .int .i64 0, .int .i64 0, .int .i64 0, .int .i64 0, .int .i64 0, .int .i64 0, .int .i64 0, .int .i64 0, .int .i64 0, .int .i64 0, .int .i64 0, .int .i64 0, .int .i64 0, .int .i64 0, .int .i64 0] 40))
  have hg := hB.lt
  clear hB
  go_enter Try.func37, Try.ntmps37
  go_upto_region 2 with (first
    | (with_reducible refine wpList_loadM (dst := some 9) ?_ HS.out ?_); rfl
    | (with_reducible refine wpList_storeQ (x := .tmp 5) (y := .tmp 9) (q := r) ?_ ?_ HX1.out ?_ ?_); rfl; rfl; rfl; intro w1 hb1 hf1; have HX2 := Lib.hid hb1; have HS2 := Lib.hid (HS1.out.fr hf1 (by omega)); have HA2 := Lib.hid (HA1.out.fr hf1 (by omega)); have HF2 := Lib.hid (G0.out.then hf1 (fun k hk hlt => by omega)); clear hb1 hf1)
  have f0 : w1.frozen? ⟨g, 0, none⟩ = false := HS2.out.frozen 0
  have c0 : w1.cell? ⟨g, 0, none⟩ = some (.int .i64 p) := HS2.out.cell 0
  go_wp2_with (first
    | (with_reducible refine wpList_storeM (x := .tmp 17) (y := .tmp 13) (q := zQ) ?_ ?_ (Ss.phase HS2.out n) ?_); rfl; rfl; intro w2 hb2 hf2; have HS3 := Lib.hid hb2; have HF3a := Lib.hid (Fr.then (S := fun k => k = g) (Fr.setCell (S := fun k => k = g) (p := ⟨g, 0, none⟩) (Fr.refl (fun k => k = g) w1) (fun _ => rfl) (.int .i64 n)) hf2 (fun k hk _ => hk)); have HX3 := Lib.hid (HX2.out.fr HF3a.out (by omega)); have HA3 := Lib.hid (HA2.out.fr HF3a.out (by omega)); have HF3 := Lib.hid (HF2.out.trans HF3a.out); clear hb2 hf2
    | (with_reducible refine wpList_loadQ (dst := some 18) ?_ HX3.out ?_); rfl
    | (with_reducible refine wpList_storeQ (x := .tmp 4) (y := .tmp 18) (q := r) ?_ ?_ HA3.out ?_ ?_); rfl; rfl; rfl; intro w3 hb3 hf3; have HA4 := Lib.hid hb3; have HS4 := Lib.hid (HS3.out.fr hf3 (by omega)); have HF4 := Lib.hid (HF3.out.then hf3 (fun k hk hlt => by omega)); clear hb3 hf3)
  exact bodyPost_ret (v := .agg (qc r)) (res_run rfl rfl Try.req_str HA4.out rfl) rfl ⟨rfl, HF4.out, HS4.out⟩
end
end Go.Proofs.Yteceghhjpejdnaa.SessD
