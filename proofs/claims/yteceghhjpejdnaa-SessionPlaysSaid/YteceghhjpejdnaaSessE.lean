/- Chapter 32: the walks of Request, Abort, first. -/
import Derived.Test.YteceghhjpejdnaaSessD
namespace Go.Proofs.Yteceghhjpejdnaa.SessE
open Go.RowKit Base Big Slices TrapA TrapB TrapG CodecA CodecB CodecC CodecK SessA SessB SessD
set_option linter.unusedVariables false
set_option linter.unusedSimpArgs false

section
variable (w : World)
theorem request_0 {g : Nat} {r : Rq} {t b : Int} (hB : Ss w g 0 r t b) : Calls Try.prog 16 #[.pointer (some ⟨g, 0, none⟩)] w fun e w' => e = .returned (.tuple #[.agg (qc zQ), .bool false]) ∧ Fr Nil w w' := by
  have HS := Lib.hid (hB.alloc (.cells #[.int .i64 0, .int .i64 0, .int .i64 0, .int .i64 0, .int .i64 0, .int .i64 0, .int .i64 0, .int .i64 0, .int .i64 0, .int .i64 0, .int .i64 0, .int .i64 0, .int .i64 0, .int .i64 0, .int .i64 0, .int .i64 0, .int .i64 0, .int .i64 0] 40))
  have HA := Lib.hid (Bk.new w 40 #[.int .i64 0, .int .i64 0, .int .i64 0, .int .i64 0, .int .i64 0, .int .i64 0, .int .i64 0, .int .i64 0, .int .i64 0, .int .i64 0, .int .i64 0, .int .i64 0, .int .i64 0, .int .i64 0, .int .i64 0, .int .i64 0, .int .i64 0, .int .i64 0])
  have G0 := Lib.hid ((Fr.refl Nil w).alloc (.cells #[.int .i64 0, .int .i64 0, .int .i64 0, .int .i64 0, .int .i64 0, .int .i64 0, .int .i64 0, .int .i64 0, .int .i64 0, .int .i64 0, .int .i64 0, .int .i64 0, .int .i64 0, .int .i64 0, .int .i64 0, .int .i64 0, .int .i64 0, .int .i64 0] 40))
  have c0 : (w.alloc (.cells #[.int .i64 0, .int .i64 0, .int .i64 0, .int .i64 0, .int .i64 0, .int .i64 0, .int .i64 0, .int .i64 0, .int .i64 0, .int .i64 0, .int .i64 0, .int .i64 0, .int .i64 0, .int .i64 0, .int .i64 0, .int .i64 0, .int .i64 0, .int .i64 0] 40)).cell? ⟨g, 0, none⟩ = some (.int .i64 0) := HS.out.cell 0
  clear hB
  go_enter Try.func16, Try.ntmps16
  go_wp2_with (first
    | (with_reducible refine wpList_storeQ (x := .tmp 2) (y := .tmp 20) (q := zQ) ?_ ?_ HA.out ?_ ?_); rfl; rfl; rfl; intro w1 hb1 hf1; have HA1 := Lib.hid hb1; have HF1 := Lib.hid (G0.out.then hf1 (fun k hk hlt => by omega)); clear hb1 hf1)
  exact bodyPost_ret (v := .tuple #[.agg (qc zQ), .bool false]) (res_run2 rfl rfl Try.req_str HA1.out rfl rfl) rfl ⟨rfl, HF1.out⟩
theorem request_4 {g : Nat} {r : Rq} {t b : Int} (hB : Ss w g 4 r t b) : Calls Try.prog 16 #[.pointer (some ⟨g, 0, none⟩)] w fun e w' => e = .returned (.tuple #[.agg (qc zQ), .bool false]) ∧ Fr Nil w w' := by
  have HS := Lib.hid (hB.alloc (.cells #[.int .i64 0, .int .i64 0, .int .i64 0, .int .i64 0, .int .i64 0, .int .i64 0, .int .i64 0, .int .i64 0, .int .i64 0, .int .i64 0, .int .i64 0, .int .i64 0, .int .i64 0, .int .i64 0, .int .i64 0, .int .i64 0, .int .i64 0, .int .i64 0] 40))
  have HA := Lib.hid (Bk.new w 40 #[.int .i64 0, .int .i64 0, .int .i64 0, .int .i64 0, .int .i64 0, .int .i64 0, .int .i64 0, .int .i64 0, .int .i64 0, .int .i64 0, .int .i64 0, .int .i64 0, .int .i64 0, .int .i64 0, .int .i64 0, .int .i64 0, .int .i64 0, .int .i64 0])
  have G0 := Lib.hid ((Fr.refl Nil w).alloc (.cells #[.int .i64 0, .int .i64 0, .int .i64 0, .int .i64 0, .int .i64 0, .int .i64 0, .int .i64 0, .int .i64 0, .int .i64 0, .int .i64 0, .int .i64 0, .int .i64 0, .int .i64 0, .int .i64 0, .int .i64 0, .int .i64 0, .int .i64 0, .int .i64 0] 40))
  have c0 : (w.alloc (.cells #[.int .i64 0, .int .i64 0, .int .i64 0, .int .i64 0, .int .i64 0, .int .i64 0, .int .i64 0, .int .i64 0, .int .i64 0, .int .i64 0, .int .i64 0, .int .i64 0, .int .i64 0, .int .i64 0, .int .i64 0, .int .i64 0, .int .i64 0, .int .i64 0] 40)).cell? ⟨g, 0, none⟩ = some (.int .i64 4) := HS.out.cell 0
  clear hB
  go_enter Try.func16, Try.ntmps16
  go_wp2_with (first
    | (with_reducible refine wpList_storeQ (x := .tmp 2) (y := .tmp 20) (q := zQ) ?_ ?_ HA.out ?_ ?_); rfl; rfl; rfl; intro w1 hb1 hf1; have HA1 := Lib.hid hb1; have HF1 := Lib.hid (G0.out.then hf1 (fun k hk hlt => by omega)); clear hb1 hf1)
  exact bodyPost_ret (v := .tuple #[.agg (qc zQ), .bool false]) (res_run2 rfl rfl Try.req_str HA1.out rfl rfl) rfl ⟨rfl, HF1.out⟩
theorem request_yes {g : Nat} {p : Int} {r : Rq} {t b : Int} (hB : Ss w g p r t b) (h0 : p ≠ 0) (h4 : p ≠ 4) : Calls Try.prog 16 #[.pointer (some ⟨g, 0, none⟩)] w fun e w' => e = .returned (.tuple #[.agg (qc r), .bool true]) ∧ Fr Nil w w' := by
  have HS := Lib.hid (hB.alloc (.cells #[.int .i64 0, .int .i64 0, .int .i64 0, .int .i64 0, .int .i64 0, .int .i64 0, .int .i64 0, .int .i64 0, .int .i64 0, .int .i64 0, .int .i64 0, .int .i64 0, .int .i64 0, .int .i64 0, .int .i64 0, .int .i64 0, .int .i64 0, .int .i64 0] 40))
  have HA := Lib.hid (Bk.new w 40 #[.int .i64 0, .int .i64 0, .int .i64 0, .int .i64 0, .int .i64 0, .int .i64 0, .int .i64 0, .int .i64 0, .int .i64 0, .int .i64 0, .int .i64 0, .int .i64 0, .int .i64 0, .int .i64 0, .int .i64 0, .int .i64 0, .int .i64 0, .int .i64 0])
  have G0 := Lib.hid ((Fr.refl Nil w).alloc (.cells #[.int .i64 0, .int .i64 0, .int .i64 0, .int .i64 0, .int .i64 0, .int .i64 0, .int .i64 0, .int .i64 0, .int .i64 0, .int .i64 0, .int .i64 0, .int .i64 0, .int .i64 0, .int .i64 0, .int .i64 0, .int .i64 0, .int .i64 0, .int .i64 0] 40))
  have c0 : (w.alloc (.cells #[.int .i64 0, .int .i64 0, .int .i64 0, .int .i64 0, .int .i64 0, .int .i64 0, .int .i64 0, .int .i64 0, .int .i64 0, .int .i64 0, .int .i64 0, .int .i64 0, .int .i64 0, .int .i64 0, .int .i64 0, .int .i64 0, .int .i64 0, .int .i64 0] 40)).cell? ⟨g, 0, none⟩ = some (.int .i64 p) := HS.out.cell 0
  have hg := hB.lt
  have n0 : (p == 0) = false := by simpa using h0
  have n4 : (p == 4) = false := by simpa using h4
  clear hB
  go_enter Try.func16, Try.ntmps16
  go_wp2_with (first
    | (with_reducible refine wpList_loadM (dst := some 24) ?_ HS.out ?_); rfl
    | (with_reducible refine wpList_storeQ (x := .tmp 2) (y := .tmp 24) (q := r) ?_ ?_ HA.out ?_ ?_); rfl; rfl; rfl; intro w1 hb1 hf1; have HA1 := Lib.hid hb1; have HF1 := Lib.hid (G0.out.then hf1 (fun k hk hlt => by omega)); clear hb1 hf1)
  exact bodyPost_ret (v := .tuple #[.agg (qc r), .bool true]) (res_run2 rfl rfl Try.req_str HA1.out rfl rfl) rfl ⟨rfl, HF1.out⟩

theorem abort_gone {g : Nat} {r : Rq} {t b : Int} (hB : Ss w g 4 r t b) : Calls Try.prog 26 #[.pointer (some ⟨g, 0, none⟩)] w fun e w' => e = .returned (.tuple #[.agg (qc zQ), .int .i64 0]) ∧ Fr Nil w w' := by
  have HS := Lib.hid (hB.alloc (.cells #[.int .i64 0, .int .i64 0, .int .i64 0, .int .i64 0, .int .i64 0, .int .i64 0, .int .i64 0, .int .i64 0, .int .i64 0, .int .i64 0, .int .i64 0, .int .i64 0, .int .i64 0, .int .i64 0, .int .i64 0, .int .i64 0, .int .i64 0, .int .i64 0] 40))
  have HA := Lib.hid (Bk.new w 40 #[.int .i64 0, .int .i64 0, .int .i64 0, .int .i64 0, .int .i64 0, .int .i64 0, .int .i64 0, .int .i64 0, .int .i64 0, .int .i64 0, .int .i64 0, .int .i64 0, .int .i64 0, .int .i64 0, .int .i64 0, .int .i64 0, .int .i64 0, .int .i64 0])
  have G0 := Lib.hid ((Fr.refl Nil w).alloc (.cells #[.int .i64 0, .int .i64 0, .int .i64 0, .int .i64 0, .int .i64 0, .int .i64 0, .int .i64 0, .int .i64 0, .int .i64 0, .int .i64 0, .int .i64 0, .int .i64 0, .int .i64 0, .int .i64 0, .int .i64 0, .int .i64 0, .int .i64 0, .int .i64 0] 40))
  have c0 : (w.alloc (.cells #[.int .i64 0, .int .i64 0, .int .i64 0, .int .i64 0, .int .i64 0, .int .i64 0, .int .i64 0, .int .i64 0, .int .i64 0, .int .i64 0, .int .i64 0, .int .i64 0, .int .i64 0, .int .i64 0, .int .i64 0, .int .i64 0, .int .i64 0, .int .i64 0] 40)).cell? ⟨g, 0, none⟩ = some (.int .i64 4) := HS.out.cell 0
  clear hB
  go_enter Try.func26, Try.ntmps26
  go_wp2_with (first
    | (with_reducible refine wpList_storeQ (x := .tmp 2) (y := .tmp 14) (q := zQ) ?_ ?_ HA.out ?_ ?_); rfl; rfl; rfl; intro w1 hb1 hf1; have HA1 := Lib.hid hb1; have HF1 := Lib.hid (G0.out.then hf1 (fun k hk hlt => by omega)); clear hb1 hf1)
  exact bodyPost_ret (v := .tuple #[.agg (qc zQ), .int .i64 0]) (res_run2 rfl rfl Try.req_str HA1.out rfl rfl) rfl ⟨rfl, HF1.out⟩
theorem abort_any {g : Nat} {p : Int} {r : Rq} {t b : Int} (hB : Ss w g p r t b) (h4 : p ≠ 4) : Calls Try.prog 26 #[.pointer (some ⟨g, 0, none⟩)] w fun e w' => e = .returned (.tuple #[.agg (qc r), .int .i64 p]) ∧ Fr (fun k => k = g) w w' ∧ Ss w' g 4 zQ t b := by
  have HS := Lib.hid (hB.alloc (.cells #[.int .i64 0, .int .i64 0, .int .i64 0, .int .i64 0, .int .i64 0, .int .i64 0, .int .i64 0, .int .i64 0, .int .i64 0, .int .i64 0, .int .i64 0, .int .i64 0, .int .i64 0, .int .i64 0, .int .i64 0, .int .i64 0, .int .i64 0, .int .i64 0] 40))
  have HA := Lib.hid (Bk.new w 40 #[.int .i64 0, .int .i64 0, .int .i64 0, .int .i64 0, .int .i64 0, .int .i64 0, .int .i64 0, .int .i64 0, .int .i64 0, .int .i64 0, .int .i64 0, .int .i64 0, .int .i64 0, .int .i64 0, .int .i64 0, .int .i64 0, .int .i64 0, .int .i64 0])
  have G0 := Lib.hid ((Fr.refl (fun k => k = g) w).alloc (.cells #[.int .i64 0, .int .i64 0, .int .i64 0, .int .i64 0, .int .i64 0, .int .i64 0, .int .i64 0, .int .i64 0, .int .i64 0, .int .i64 0, .int .i64 0, .int .i64 0, .int .i64 0, .int .i64 0, .int .i64 0, .int .i64 0, .int .i64 0, .int .i64 0] 40))
  have KE := Lib.hid (ends_any (w.alloc (.cells #[.int .i64 0, .int .i64 0, .int .i64 0, .int .i64 0, .int .i64 0, .int .i64 0, .int .i64 0, .int .i64 0, .int .i64 0, .int .i64 0, .int .i64 0, .int .i64 0, .int .i64 0, .int .i64 0, .int .i64 0, .int .i64 0, .int .i64 0, .int .i64 0] 40)) (n := 4) HS.out)
  have c0 : (w.alloc (.cells #[.int .i64 0, .int .i64 0, .int .i64 0, .int .i64 0, .int .i64 0, .int .i64 0, .int .i64 0, .int .i64 0, .int .i64 0, .int .i64 0, .int .i64 0, .int .i64 0, .int .i64 0, .int .i64 0, .int .i64 0, .int .i64 0, .int .i64 0, .int .i64 0] 40)).cell? ⟨g, 0, none⟩ = some (.int .i64 p) := HS.out.cell 0
  have hg := hB.lt
  have n4 : (p == 4) = false := by simpa using h4
  clear hB
  go_enter Try.func26, Try.ntmps26
  go_wp2_with fail
  refine KE.out.mono ?_
  rintro e w1 ⟨rfl, hf1, hs1⟩
  have HA1 := Lib.hid (HA.out.fr hf1 (by omega))
  have HS1 := Lib.hid hs1
  have HF1 := Lib.hid (G0.out.trans hf1)
  clear hf1 hs1
  go_wp2_with (first
    | (with_reducible refine wpList_storeQ (x := .tmp 2) (y := .tmp 20) (q := r) ?_ ?_ HA1.out ?_ ?_); rfl; rfl; rfl; intro w2 hb2 hf2; have HA2 := Lib.hid hb2; have HS2 := Lib.hid (HS1.out.fr hf2 (by omega)); have HF2 := Lib.hid (HF1.out.then hf2 (fun k hk hlt => by omega)); clear hb2 hf2)
  exact bodyPost_ret (v := .tuple #[.agg (qc r), .int .i64 p]) (res_run2 rfl rfl Try.req_str HA2.out rfl rfl) rfl ⟨rfl, HF2.out, HS2.out⟩

/-- the phase of a request that is begun -/
def fst (r : Rq) (b : Int) : Int := if r.k = 2 ∧ 0 < b then 1 else 2
theorem first_any {g : Nat} {p : Int} {r q : Rq} {t b : Int} (hB : Ss w g p q t b) : Calls Try.prog 33 #[.pointer (some ⟨g, 0, none⟩), .agg (qc r)] w fun e w' => e = .returned (.int .i64 (fst r b)) ∧ Fr Nil w w' := by
  have HR := Lib.hid (Bk.new w 40 (qc r))
  have HS := Lib.hid (hB.alloc (.cells (qc r) 40))
  have G0 := Lib.hid ((Fr.refl Nil w).alloc (.cells (qc r) 40))
  have c0 : (w.alloc (.cells (qc r) 40)).cell? ⟨w.heap.size, 0, none⟩ = some (.int .i64 r.k) := HR.out.cell 0
  have c20 : (w.alloc (.cells (qc r) 40)).cell? ⟨g, 20, none⟩ = some (.int .i64 b) := HS.out.cell 20
  have hg := hB.lt
  clear hB
  have HF := Lib.hid (show fst r b = if r.k = 2 ∧ 0 < b then 1 else 2 from rfl)
  generalize fst r b = f at HF ⊢
  generalize qc r = cs at *
  generalize r.k = k at *
  by_cases hk : k = 2
  · subst hk
    by_cases hb : 0 < b
    · have hf : f = 1 := by rw [HF.out, if_pos ⟨rfl, hb⟩]
      subst hf
      clear HF
      go_enter Try.func33, Try.ntmps33
      go_wp2_with fail
      go_ret
      exact ⟨rfl, G0.out⟩
    · have hf : f = 2 := by rw [HF.out, if_neg (fun h => hb h.2)]
      subst hf
      clear HF
      go_enter Try.func33, Try.ntmps33
      go_wp2_with fail
      go_ret
      exact ⟨rfl, G0.out⟩
  · have hf : f = 2 := by rw [HF.out, if_neg (fun h => hk h.1)]
    subst hf
    clear HF
    go_enter Try.func33, Try.ntmps33
    go_wp2_with fail
    go_ret
    exact ⟨rfl, G0.out⟩
end
end Go.Proofs.Yteceghhjpejdnaa.SessE
