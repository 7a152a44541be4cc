/- Chapter 29: the walks of plan.Only (of a bare query), bare. -/
import Derived.Test.YteceghhjpejdnaaCodecI
import Derived.Test.YteceghhjpejdnaaBigR
import Derived.Test.YteceghhjpejdnaaCodecC
import Derived.RegionTactic
namespace Go.Proofs.Yteceghhjpejdnaa.CodecJ
open Go.RowKit Base Big CodecA CodecB CodecC
set_option linter.unusedVariables false
set_option linter.unusedSimpArgs false

def bq (q : Int) : Array Value := #[.int .i64 q, .int .i64 0, .int .i64 0, .int .i64 0, .int .i64 0, .int .i64 0, .int .i64 0, .int .i64 0, .int .i64 0, .int .i64 0]
theorem Try.query_str : Str Try.prog 27 10 := ⟨⟨_, Try.underlying27⟩, by kernel_rfl⟩
section
variable (w : World)
set_option maxRecDepth 100000 in
set_option maxHeartbeats 2000000 in
theorem plan_any (q : Int) (h : q = 1 ∨ q = 2 ∨ q = 3 ∨ q = 4 ∨ q = 5 ∨ q = 6 ∨ q = 7) : Calls Try.prog 48 #[.agg #[.int .i64 q, .int .i64 0, .int .i64 0, .int .i64 0, .int .i64 0, .int .i64 0, .int .i64 0, .int .i64 0, .int .i64 0, .int .i64 0]] w fun e w' => e = .returned (.agg #[.int .i64 q, .int .i64 0, .int .i64 0, .int .i64 0, .int .i64 0, .int .i64 0, .int .i64 0, .int .i64 0, .int .i64 0, .int .i64 0]) ∧ Fr Nil w w' := by
  rcases h with rfl | rfl | rfl | rfl | rfl | rfl | rfl
  · go_enter Try.func48, Try.ntmps48
    go_wp2_with fail
    exact bodyPost_ret (v := .agg (bq 1)) (res_run rfl rfl Try.query_str (T := 27) (g := w.heap.size + 1) (by exact Bk.alloc (new' (by simp)) _) rfl) rfl ⟨rfl, by repeat first | exact Fr.refl _ _ | apply Fr.alloc⟩
  · go_enter Try.func48, Try.ntmps48
    go_wp2_with fail
    exact bodyPost_ret (v := .agg (bq 2)) (res_run rfl rfl Try.query_str (T := 27) (g := w.heap.size + 1) (by exact Bk.alloc (new' (by simp)) _) rfl) rfl ⟨rfl, by repeat first | exact Fr.refl _ _ | apply Fr.alloc⟩
  · go_enter Try.func48, Try.ntmps48
    go_wp2_with fail
    exact bodyPost_ret (v := .agg (bq 3)) (res_run rfl rfl Try.query_str (T := 27) (g := w.heap.size + 1) (by exact Bk.alloc (new' (by simp)) _) rfl) rfl ⟨rfl, by repeat first | exact Fr.refl _ _ | apply Fr.alloc⟩
  · go_enter Try.func48, Try.ntmps48
    go_wp2_with fail
    exact bodyPost_ret (v := .agg (bq 4)) (res_run rfl rfl Try.query_str (T := 27) (g := w.heap.size + 1) (by exact Bk.alloc (new' (by simp)) _) rfl) rfl ⟨rfl, by repeat first | exact Fr.refl _ _ | apply Fr.alloc⟩
  · go_enter Try.func48, Try.ntmps48
    go_wp2_with fail
    exact bodyPost_ret (v := .agg (bq 5)) (res_run rfl rfl Try.query_str (T := 27) (g := w.heap.size + 1) (by exact Bk.alloc (new' (by simp)) _) rfl) rfl ⟨rfl, by repeat first | exact Fr.refl _ _ | apply Fr.alloc⟩
  · go_enter Try.func48, Try.ntmps48
    go_wp2_with fail
    exact bodyPost_ret (v := .agg (bq 6)) (res_run rfl rfl Try.query_str (T := 27) (g := w.heap.size + 1) (by exact Bk.alloc (new' (by simp)) _) rfl) rfl ⟨rfl, by repeat first | exact Fr.refl _ _ | apply Fr.alloc⟩
  · go_enter Try.func48, Try.ntmps48
    go_wp2_with fail
    exact bodyPost_ret (v := .agg (bq 7)) (res_run rfl rfl Try.query_str (T := 27) (g := w.heap.size + 1) (by exact Bk.alloc (new' (by simp)) _) rfl) rfl ⟨rfl, by repeat first | exact Fr.refl _ _ | apply Fr.alloc⟩
/-- a request without its numbers -/
def bareQ (r : Rq) : Rq := if r.k = 1 then ⟨1, r.ck, 0, 0, 0, 0, 0, 0, 0, 0, 0, 0, 0, 0, 0, 0, 0, 0⟩ else ⟨2, 0, 0, 0, 0, 0, 0, 0, r.qk, 0, 0, 0, 0, 0, 0, 0, 0, 0⟩
set_option maxRecDepth 100000 in
set_option maxHeartbeats 2000000 in
theorem bare_any (r : Rq) (hg : GoodQ r) : Calls Try.prog 46 #[.agg (qc r)] w fun e w' => e = .returned (.agg (qc (bareQ r))) ∧ Fr Nil w w' := by
  have HA := Lib.hid (new' (g := w.heap.size + 1) (w := w.alloc (.cells (qc r) 40)) (t := 40) (cs := #[.int .i64 0, .int .i64 0, .int .i64 0, .int .i64 0, .int .i64 0, .int .i64 0, .int .i64 0, .int .i64 0, .int .i64 0, .int .i64 0, .int .i64 0, .int .i64 0, .int .i64 0, .int .i64 0, .int .i64 0, .int .i64 0, .int .i64 0, .int .i64 0]) (by simp))
  have HB := Lib.hid ((Bk.new w 40 (qc r)).alloc (.cells #[.int .i64 0, .int .i64 0, .int .i64 0, .int .i64 0, .int .i64 0, .int .i64 0, .int .i64 0, .int .i64 0, .int .i64 0, .int .i64 0, .int .i64 0, .int .i64 0, .int .i64 0, .int .i64 0, .int .i64 0, .int .i64 0, .int .i64 0, .int .i64 0] 40))
  have G0 := Lib.hid (((Fr.refl Nil w).alloc (.cells (qc r) 40)).alloc (.cells #[.int .i64 0, .int .i64 0, .int .i64 0, .int .i64 0, .int .i64 0, .int .i64 0, .int .i64 0, .int .i64 0, .int .i64 0, .int .i64 0, .int .i64 0, .int .i64 0, .int .i64 0, .int .i64 0, .int .i64 0, .int .i64 0, .int .i64 0, .int .i64 0] 40))
  have c0 : ((w.alloc (.cells (qc r) 40)).alloc (.cells #[.int .i64 0, .int .i64 0, .int .i64 0, .int .i64 0, .int .i64 0, .int .i64 0, .int .i64 0, .int .i64 0, .int .i64 0, .int .i64 0, .int .i64 0, .int .i64 0, .int .i64 0, .int .i64 0, .int .i64 0, .int .i64 0, .int .i64 0, .int .i64 0] 40)).cell? ⟨w.heap.size, 0, none⟩ = some (.int .i64 r.k) := HB.out.cell 0
  have c1 : ((w.alloc (.cells (qc r) 40)).alloc (.cells #[.int .i64 0, .int .i64 0, .int .i64 0, .int .i64 0, .int .i64 0, .int .i64 0, .int .i64 0, .int .i64 0, .int .i64 0, .int .i64 0, .int .i64 0, .int .i64 0, .int .i64 0, .int .i64 0, .int .i64 0, .int .i64 0, .int .i64 0, .int .i64 0] 40)).cell? ⟨w.heap.size, 1, none⟩ = some (.int .i64 r.ck) := HB.out.cell 1
  have c8 : ((w.alloc (.cells (qc r) 40)).alloc (.cells #[.int .i64 0, .int .i64 0, .int .i64 0, .int .i64 0, .int .i64 0, .int .i64 0, .int .i64 0, .int .i64 0, .int .i64 0, .int .i64 0, .int .i64 0, .int .i64 0, .int .i64 0, .int .i64 0, .int .i64 0, .int .i64 0, .int .i64 0, .int .i64 0] 40)).cell? ⟨w.heap.size, 8, none⟩ = some (.int .i64 r.qk) := HB.out.cell 8
  rcases kinds hg with ⟨hk, hc⟩ | ⟨hk, hc⟩
  · have hb : bareQ r = ⟨1, r.ck, 0, 0, 0, 0, 0, 0, 0, 0, 0, 0, 0, 0, 0, 0, 0, 0⟩ := by unfold bareQ; rw [if_pos hk]
    rw [hb]
    rw [hk] at c0
    clear hk hc hg hb
    generalize r.ck = ck at *
    go_enter Try.func46, Try.ntmps46
    go_wp2_with (first
      | (with_reducible refine wpList_storeQ (x := .tmp 2) (y := .tmp 12) (q := ⟨1, ck, 0, 0, 0, 0, 0, 0, 0, 0, 0, 0, 0, 0, 0, 0, 0, 0⟩) ?_ ?_ HA.out ?_ ?_); rfl; rfl; rfl; intro w1 hb1 hf1; have HA1 := Lib.hid hb1; have HF1 := Lib.hid (G0.out.then hf1 (fun k hk hlt => by omega)); clear hb1 hf1)
    exact bodyPost_ret (v := .agg (qc _)) (res_run rfl rfl Try.req_str HA1.out rfl) rfl ⟨rfl, HF1.out⟩
  · have hb : bareQ r = ⟨2, 0, 0, 0, 0, 0, 0, 0, r.qk, 0, 0, 0, 0, 0, 0, 0, 0, 0⟩ := by unfold bareQ; rw [if_neg (by omega)]
    rw [hb]
    rw [hk] at c0
    have KP := Lib.hid (fun W => plan_any W r.qk hc)
    clear hk hc hg hb
    generalize r.qk = qk at *
    go_enter Try.func46, Try.ntmps46
    go_wp2_with fail
    generalize ((w.alloc (.cells (qc r) 40)).alloc (.cells #[.int .i64 0, .int .i64 0, .int .i64 0, .int .i64 0, .int .i64 0, .int .i64 0, .int .i64 0, .int .i64 0, .int .i64 0, .int .i64 0, .int .i64 0, .int .i64 0, .int .i64 0, .int .i64 0, .int .i64 0, .int .i64 0, .int .i64 0, .int .i64 0] 40)) = w1 at *
    refine wp_region_held (S := fun w' => w'.cell? ⟨w.heap.size, 0, none⟩ = some (.int .i64 2) ∧ w'.cell? ⟨w.heap.size, 8, none⟩ = some (.int .i64 qk)) (by kernel_rfl) ?_
    have hS0 : w1.drew.cell? ⟨w.heap.size, 0, none⟩ = some (.int .i64 2) ∧ w1.drew.cell? ⟨w.heap.size, 8, none⟩ = some (.int .i64 qk) := ⟨c0, c8⟩
    refine wpAnyH_take (i := 0) (v := .pointer (some ⟨w.heap.size, 0, none⟩)) rfl (by kernel_rfl) (by kernel_rfl) (by kernel_rfl) (fun _ _ _ h => h) (Or.inl ⟨by rfl, fun w' hw' => by have hc0 := hw'.1; have hc8 := hw'.2; first | (go_simp; done) | (go_simp; rfl)⟩) hS0 ?_
    refine wpAnyH_take (i := 1) (v := .int .i64 2) rfl (by kernel_rfl) (by kernel_rfl) (by kernel_rfl) (fun _ _ _ h => h) (Or.inl ⟨by rfl, fun w' hw' => by have hc0 := hw'.1; have hc8 := hw'.2; first | (go_simp; done) | (go_simp; rfl)⟩) hS0 ?_
    refine wpAnyH_take (i := 2) (v := .pointer (some ⟨w.heap.size, 8, none⟩)) rfl (by kernel_rfl) (by kernel_rfl) (by kernel_rfl) (fun _ _ _ h => h) (Or.inl ⟨by rfl, fun w' hw' => by have hc0 := hw'.1; have hc8 := hw'.2; first | (go_simp; done) | (go_simp; rfl)⟩) hS0 ?_
    refine wpAnyH_take (i := 3) (v := .pointer (some ⟨w.heap.size, 8, none⟩)) rfl (by kernel_rfl) (by kernel_rfl) (by kernel_rfl) (fun _ _ _ h => h) (Or.inl ⟨by rfl, fun w' hw' => by have hc0 := hw'.1; have hc8 := hw'.2; first | (go_simp; done) | (go_simp; rfl)⟩) hS0 ?_
    refine wpAnyH_take (i := 4) (v := .int .i64 qk) rfl (by kernel_rfl) (by kernel_rfl) (by kernel_rfl) (fun _ _ _ h => h) (Or.inl ⟨by rfl, fun w' hw' => by have hc0 := hw'.1; have hc8 := hw'.2; first | (go_simp; done) | (go_simp; rfl)⟩) hS0 ?_
    refine wpAnyH_take (i := 5) (v := .agg (bq qk)) rfl (by kernel_rfl) (by kernel_rfl) (by kernel_rfl) (fun _ _ _ h => h) (Or.inl ⟨by rfl, fun w' hw' => by have hc0 := hw'.1; have hc8 := hw'.2; first | (go_simp; done) | (go_simp; rfl)⟩) hS0 ?_
    try simp only [Act.put, List.getElem_toArray, List.getElem_cons_zero, List.getElem_cons_succ, List.setIfInBounds_toArray, List.set_cons_zero, List.set_cons_succ]
    refine wpAnyH_all (rs := [6]) (by kernel_rfl) (by simp) (fun i hi => ?_)
    obtain rfl : i = 6 := by simpa using hi
    refine wpOp_step rfl (fun K hK => ?_)
    go_simp
    refine (KP.out _).mono ?_
    rintro e w2 ⟨rfl, hf2⟩
    have HB2 := Lib.hid (HB.out.drew.fr hf2 id)
    have HA2 := Lib.hid (HA.out.drew.fr hf2 id)
    have HF2 := Lib.hid (G0.out.drew.trans hf2)
    have hS2 : w2.cell? ⟨w.heap.size, 0, none⟩ = some (.int .i64 2) ∧ w2.cell? ⟨w.heap.size, 8, none⟩ = some (.int .i64 qk) := ⟨(hf2.cell (p := ⟨w.heap.size, 0, none⟩) HB.out.lt id).trans hS0.1, (hf2.cell (p := ⟨w.heap.size, 8, none⟩) HB.out.lt id).trans hS0.2⟩
    refine hK _ _ ⟨hS2, ?_⟩
    clear hK K
    try simp only [Act.put, List.getElem_toArray, List.getElem_cons_zero, List.getElem_cons_succ, List.setIfInBounds_toArray, List.set_cons_zero, List.set_cons_succ]
    refine wpAnyH_take (i := 7) (v := .agg (qc ⟨2, 0, 0, 0, 0, 0, 0, 0, qk, 0, 0, 0, 0, 0, 0, 0, 0, 0⟩)) rfl (by kernel_rfl) (by kernel_rfl) (by kernel_rfl) (fun _ _ _ h => h) (Or.inl ⟨by rfl, fun w' hw' => by have hc0 := hw'.1; have hc8 := hw'.2; first | (go_simp; done) | (go_simp; rfl)⟩) hS2 ?_
    refine wpAnyH_all (rs := [8]) (by kernel_rfl) (by simp) (fun i hi => ?_)
    obtain rfl : i = 8 := by simpa using hi
    refine wpOp_storeB (g := w.heap.size + 1) (cs := qc ⟨2, 0, 0, 0, 0, 0, 0, 0, qk, 0, 0, 0, 0, 0, 0, 0, 0, 0⟩) rfl rfl rfl Try.req_str HA2.out rfl rfl (qc_one _) ?_
    intro w3 hb3 hf3
    refine ⟨⟨(hf3.cell (p := ⟨w.heap.size, 0, none⟩) HB2.out.lt (by simp)).trans hS2.1, (hf3.cell (p := ⟨w.heap.size, 8, none⟩) HB2.out.lt (by simp)).trans hS2.2⟩, wpAnyH_done (by kernel_rfl) ?_ _⟩
    have HA3 := Lib.hid hb3
    have HF3 := Lib.hid (HF2.out.then hf3 (fun k hk hlt => by omega))
    clear hb3 hf3 hS2 hS0 c0 c1 c8
    go_wp2_with fail
    exact bodyPost_ret (v := .agg (qc _)) (res_run rfl rfl Try.req_str HA3.out rfl) rfl ⟨rfl, HF3.out⟩
end
end Go.Proofs.Yteceghhjpejdnaa.CodecJ
