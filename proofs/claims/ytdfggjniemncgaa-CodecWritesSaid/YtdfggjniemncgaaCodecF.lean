/- Chapter 29: the walk of Decode. -/
import Derived.Test.YtdfggjniemncgaaCodecE
namespace Go.Proofs.Ytdfggjniemncgaa.CodecF
open Go.RowKit Base Big Slices VintA VintB VintC VintD CodecA TrapA TrapB TrapG CodecC CodecD CodecE Quiet
set_option linter.unusedVariables false
set_option linter.unusedSimpArgs false

theorem rd_err {os : List Nat} : ∀ {r : Rq} {t : List Int} {x c : Int}, rd r os t = .error (x, c) → (c != 0) = true := by
  induction os with
  | nil =>
    intro r t x c h
    rw [rd] at h
    split at h
    · cases h
    · cases h; decide
  | cons o os ih =>
    intro r t x c h
    cases hn : next t with
    | none => rw [rd_none hn] at h; cases h; decide
    | some z => rw [rd_some hn] at h; exact ih h
theorem dec_err {b : List Int} {x c : Int} (h : dec b = .error (x, c)) : (c != 0) = true := by
  match b, h with
  | [], h => cases h; decide
  | k :: t, h =>
    simp only [dec] at h
    split at h
    · exact rd_err h
    · cases h; decide

section
variable (w : World)
theorem d1_ok {m : Nat} {b : List Int} {v : Value} {r : Rq} (hl : b.length ≤ 100000) (hb : Bytes b) (hB : Bk w m 22 #[v]) (hv : Sl EB w v b) (hd : dec b = .ok r) :
    Calls Try.prog 20 #[.pointer (some ⟨m, 0, none⟩)] w fun e w' => e = .returned (.agg (qc r)) ∧ Fr Nil w w' := by
  have KD := Lib.hid (fun W (h : Fr Nil w W) => (decoded_any W b v hl hb (hv.fr h)).mono fun e w' h => (show e = .returned (.agg (qc r)) ∧ Fr Nil W w' by rw [hd] at h; exact h))
  have HA := Lib.hid (Bk.new w 36 #[.int .i64 0, .int .i64 0, .int .i64 0, .int .i64 0, .int .i64 0, .int .i64 0, .int .i64 0, .int .i64 0, .int .i64 0, .int .i64 0, .int .i64 0, .int .i64 0, .int .i64 0, .int .i64 0, .int .i64 0, .int .i64 0, .int .i64 0, .int .i64 0])
  have G0 := Lib.hid ((Fr.refl Nil w).alloc (.cells #[.int .i64 0, .int .i64 0, .int .i64 0, .int .i64 0, .int .i64 0, .int .i64 0, .int .i64 0, .int .i64 0, .int .i64 0, .int .i64 0, .int .i64 0, .int .i64 0, .int .i64 0, .int .i64 0, .int .i64 0, .int .i64 0, .int .i64 0, .int .i64 0] 36))
  have hB1 := hB.alloc (.cells #[.int .i64 0, .int .i64 0, .int .i64 0, .int .i64 0, .int .i64 0, .int .i64 0, .int .i64 0, .int .i64 0, .int .i64 0, .int .i64 0, .int .i64 0, .int .i64 0, .int .i64 0, .int .i64 0, .int .i64 0, .int .i64 0, .int .i64 0, .int .i64 0] 36)
  obtain ⟨c0, f0⟩ := hB1.c1
  have hm := hB.lt
  have hne : ¬ m = w.heap.size := by omega
  clear hv hB hB1 hd
  go_enter Try.func20, Try.ntmps20
  go_wp2_with fail
  have q := KD.out _ G0.out
  refine Calls.mono q ?_
  rintro e w1 ⟨rfl, hf⟩
  have HA1 := Lib.hid (HA.out.fr hf id)
  have HF1 := Lib.hid (G0.out.trans hf)
  clear q hf
  go_wp2_with (first
    | (with_reducible refine wpList_storeQ (x := .tmp 1) (y := .tmp 3) (q := r) ?_ ?_ HA1.out ?_ ?_); rfl; rfl; rfl; intro w2 hb2 hf2; have HB2 := Lib.hid hb2; have HF2 := Lib.hid (HF1.out.then hf2 (fun k hk hlt => by omega)); clear hb2 hf2)
  exact bodyPost_ret (v := .agg (qc r)) (res_run rfl rfl Try.req_str HB2.out rfl) rfl ⟨rfl, HF2.out⟩
theorem d1_bad {m : Nat} {b : List Int} {v : Value} {x c : Int} (hl : b.length ≤ 100000) (hb : Bytes b) (hB : Bk w m 22 #[v]) (hv : Sl EB w v b) (hd : dec b = .error (x, c)) :
    Calls Try.prog 20 #[.pointer (some ⟨m, 0, none⟩)] w fun e w' => e = .panicked [fault x c] ∧ Fr Nil w w' := by
  have KD := Lib.hid (fun W (h : Fr Nil w W) => (decoded_any W b v hl hb (hv.fr h)).mono fun e w' h => (show e = .panicked [fault x c] ∧ Fr Nil W w' by rw [hd] at h; exact h))
  have G0 := Lib.hid ((Fr.refl Nil w).alloc (.cells #[.int .i64 0, .int .i64 0, .int .i64 0, .int .i64 0, .int .i64 0, .int .i64 0, .int .i64 0, .int .i64 0, .int .i64 0, .int .i64 0, .int .i64 0, .int .i64 0, .int .i64 0, .int .i64 0, .int .i64 0, .int .i64 0, .int .i64 0, .int .i64 0] 36))
  have hB1 := hB.alloc (.cells #[.int .i64 0, .int .i64 0, .int .i64 0, .int .i64 0, .int .i64 0, .int .i64 0, .int .i64 0, .int .i64 0, .int .i64 0, .int .i64 0, .int .i64 0, .int .i64 0, .int .i64 0, .int .i64 0, .int .i64 0, .int .i64 0, .int .i64 0, .int .i64 0] 36)
  obtain ⟨c0, f0⟩ := hB1.c1
  have hm := hB.lt
  have hne : ¬ m = w.heap.size := by omega
  clear hv hB hB1 hd
  go_enter Try.func20, Try.ntmps20
  go_wp2_with fail
  have q := KD.out _ G0.out
  refine Calls.mono q ?_
  rintro e w1 ⟨rfl, hf⟩
  exact ⟨rfl, rfl, G0.out.trans hf⟩
theorem enters_d1 : Enters 20 := fun args w => by simp [go_sem]

theorem Decode_ok {b : List Int} {v : Value} {r : Rq} (hl : b.length ≤ 100000) (hb : Bytes b) (hv : Sl EB w v b) (hd : dec b = .ok r) :
    Calls Try.prog 7 #[v] w fun e w' => e = .returned (.tuple #[.agg (qc r), .int .i64 0]) ∧ Fr Nil w w' := by
  have hmf : ∀ (fn : Fn) (first cap : Array Value) (w : World), (Instr.makeFunc fn first cap).run Try.prog w = .ok (.func fn first cap) w := fun _ _ _ _ => rfl
  obtain ⟨A, cp, hvs⟩ := hv.shape
  subst hvs
  have HX := Lib.hid ((Bk.new w 22 #[.slice A b.length cp]).alloc (.cells #[.int .i64 0, .int .i64 0, .int .i64 0, .int .i64 0, .int .i64 0, .int .i64 0, .int .i64 0, .int .i64 0, .int .i64 0, .int .i64 0, .int .i64 0, .int .i64 0, .int .i64 0, .int .i64 0, .int .i64 0, .int .i64 0, .int .i64 0, .int .i64 0] 36))
  have HA := Lib.hid (new' (g := w.heap.size + 1) (w := w.alloc (.cells #[.slice A b.length cp] 22)) (t := 36) (cs := #[.int .i64 0, .int .i64 0, .int .i64 0, .int .i64 0, .int .i64 0, .int .i64 0, .int .i64 0, .int .i64 0, .int .i64 0, .int .i64 0, .int .i64 0, .int .i64 0, .int .i64 0, .int .i64 0, .int .i64 0, .int .i64 0, .int .i64 0, .int .i64 0]) (by simp))
  have G0 := Lib.hid (((Fr.refl Nil w).alloc (.cells #[.slice A b.length cp] 22)).alloc (.cells #[.int .i64 0, .int .i64 0, .int .i64 0, .int .i64 0, .int .i64 0, .int .i64 0, .int .i64 0, .int .i64 0, .int .i64 0, .int .i64 0, .int .i64 0, .int .i64 0, .int .i64 0, .int .i64 0, .int .i64 0, .int .i64 0, .int .i64 0, .int .i64 0] 36))
  have KV := Lib.hid (Value_ok (F := 20) (first := #[]) (cap := #[.pointer (some ⟨w.heap.size, 0, none⟩)]) (w := (w.alloc (.cells #[.slice A b.length cp] 22)).alloc (.cells #[.int .i64 0, .int .i64 0, .int .i64 0, .int .i64 0, .int .i64 0, .int .i64 0, .int .i64 0, .int .i64 0, .int .i64 0, .int .i64 0, .int .i64 0, .int .i64 0, .int .i64 0, .int .i64 0, .int .i64 0, .int .i64 0, .int .i64 0, .int .i64 0] 36)) (S := Nil) (r := r) (fun _ h => h.elim) enters_d1
    (fun W hW => by rw [Array.empty_append]; exact d1_ok W hl hb (HX.out.fr hW id) (hv.fr (G0.out.trans hW)) hd))
  clear hd hv
  go_enter Try.func7, Try.ntmps7
  go_wp2_with fail
  refine KV.out.mono ?_
  rintro e w1 ⟨rfl, hf⟩
  have HA1 := Lib.hid ((HA.out.fr hf id).alloc (.cells #[.int .i64 0, .int .i64 0, .int .i64 0, .int .i64 0, .int .i64 0, .int .i64 0, .int .i64 0, .int .i64 0, .int .i64 0, .int .i64 0, .int .i64 0, .int .i64 0, .int .i64 0, .int .i64 0, .int .i64 0, .int .i64 0, .int .i64 0, .int .i64 0] 36))
  have HB1 := Lib.hid (Bk.new w1 36 #[.int .i64 0, .int .i64 0, .int .i64 0, .int .i64 0, .int .i64 0, .int .i64 0, .int .i64 0, .int .i64 0, .int .i64 0, .int .i64 0, .int .i64 0, .int .i64 0, .int .i64 0, .int .i64 0, .int .i64 0, .int .i64 0, .int .i64 0, .int .i64 0])
  have HF1 := Lib.hid ((G0.out.trans hf).alloc (.cells #[.int .i64 0, .int .i64 0, .int .i64 0, .int .i64 0, .int .i64 0, .int .i64 0, .int .i64 0, .int .i64 0, .int .i64 0, .int .i64 0, .int .i64 0, .int .i64 0, .int .i64 0, .int .i64 0, .int .i64 0, .int .i64 0, .int .i64 0, .int .i64 0] 36))
  have HS1 := Lib.hid (HA.out.fr hf id).lt
  clear hf
  go_wp2_with (first
    | (with_reducible refine wpList_storeQ (x := .tmp 4) (y := .tmp 9) (q := r) ?_ ?_ HB1.out ?_ ?_); rfl; rfl; rfl; intro w2 hb2 hf2; have HB2 := Lib.hid hb2; have HA2 := Lib.hid (HA1.out.fr hf2 (by have := HS1.out; omega)); have HF2 := Lib.hid (HF1.out.then hf2 (fun k hk hlt => by have := HS1.out; omega)); clear hb2 hf2
    | (with_reducible refine wpList_loadQ (dst := some 14) ?_ HB2.out ?_); rfl
    | (with_reducible refine wpList_storeQ (x := .tmp 2) (y := .tmp 14) (q := r) ?_ ?_ HA2.out ?_ ?_); rfl; rfl; rfl; intro w3 hb3 hf3; have HA3 := Lib.hid hb3; have HF3 := Lib.hid (HF2.out.then hf3 (fun k hk hlt => by omega)); clear hb3 hf3)
  exact bodyPost_ret (v := .tuple #[.agg (qc r), .int .i64 0]) (res_run2 rfl rfl Try.req_str HA3.out rfl rfl) rfl ⟨rfl, HF3.out⟩
theorem Decode_bad {b : List Int} {v : Value} {x c : Int} (hl : b.length ≤ 100000) (hb : Bytes b) (hv : Sl EB w v b) (hd : dec b = .error (x, c)) :
    Calls Try.prog 7 #[v] w fun e w' => e = .returned (.tuple #[.agg (qc (⟨0, 0, 0, 0, 0, 0, 0, 0, 0, 0, 0, 0, 0, 0, 0, 0, 0, 0⟩ : Rq)), .int .i64 8]) ∧ Fr Nil w w' := by
  have hmf : ∀ (fn : Fn) (first cap : Array Value) (w : World), (Instr.makeFunc fn first cap).run Try.prog w = .ok (.func fn first cap) w := fun _ _ _ _ => rfl
  obtain ⟨A, cp, hvs⟩ := hv.shape
  subst hvs
  have HX := Lib.hid ((Bk.new w 22 #[.slice A b.length cp]).alloc (.cells #[.int .i64 0, .int .i64 0, .int .i64 0, .int .i64 0, .int .i64 0, .int .i64 0, .int .i64 0, .int .i64 0, .int .i64 0, .int .i64 0, .int .i64 0, .int .i64 0, .int .i64 0, .int .i64 0, .int .i64 0, .int .i64 0, .int .i64 0, .int .i64 0] 36))
  have HA := Lib.hid (new' (g := w.heap.size + 1) (w := w.alloc (.cells #[.slice A b.length cp] 22)) (t := 36) (cs := #[.int .i64 0, .int .i64 0, .int .i64 0, .int .i64 0, .int .i64 0, .int .i64 0, .int .i64 0, .int .i64 0, .int .i64 0, .int .i64 0, .int .i64 0, .int .i64 0, .int .i64 0, .int .i64 0, .int .i64 0, .int .i64 0, .int .i64 0, .int .i64 0]) (by simp))
  have G0 := Lib.hid (((Fr.refl Nil w).alloc (.cells #[.slice A b.length cp] 22)).alloc (.cells #[.int .i64 0, .int .i64 0, .int .i64 0, .int .i64 0, .int .i64 0, .int .i64 0, .int .i64 0, .int .i64 0, .int .i64 0, .int .i64 0, .int .i64 0, .int .i64 0, .int .i64 0, .int .i64 0, .int .i64 0, .int .i64 0, .int .i64 0, .int .i64 0] 36))
  have hcne := dec_err hd
  have hcne' : ¬ c = 0 := by simpa using hcne
  have KV := Lib.hid (Value_bad (F := 20) (first := #[]) (cap := #[.pointer (some ⟨w.heap.size, 0, none⟩)]) (w := (w.alloc (.cells #[.slice A b.length cp] 22)).alloc (.cells #[.int .i64 0, .int .i64 0, .int .i64 0, .int .i64 0, .int .i64 0, .int .i64 0, .int .i64 0, .int .i64 0, .int .i64 0, .int .i64 0, .int .i64 0, .int .i64 0, .int .i64 0, .int .i64 0, .int .i64 0, .int .i64 0, .int .i64 0, .int .i64 0] 36)) (S := Nil) (x := x) (c := c) (fun _ h => h.elim) enters_d1
    (fun W hW => by rw [Array.empty_append]; exact d1_bad W hl hb (HX.out.fr hW id) (hv.fr (G0.out.trans hW)) hd))
  clear hd hv
  go_enter Try.func7, Try.ntmps7
  go_wp2_with fail
  refine KV.out.mono ?_
  rintro e w1 ⟨rfl, hf⟩
  have HA1 := Lib.hid ((HA.out.fr hf id).alloc (.cells #[.int .i64 0, .int .i64 0, .int .i64 0, .int .i64 0, .int .i64 0, .int .i64 0, .int .i64 0, .int .i64 0, .int .i64 0, .int .i64 0, .int .i64 0, .int .i64 0, .int .i64 0, .int .i64 0, .int .i64 0, .int .i64 0, .int .i64 0, .int .i64 0] 36))
  have HB1 := Lib.hid (Bk.new w1 36 #[.int .i64 0, .int .i64 0, .int .i64 0, .int .i64 0, .int .i64 0, .int .i64 0, .int .i64 0, .int .i64 0, .int .i64 0, .int .i64 0, .int .i64 0, .int .i64 0, .int .i64 0, .int .i64 0, .int .i64 0, .int .i64 0, .int .i64 0, .int .i64 0])
  have HF1 := Lib.hid ((G0.out.trans hf).alloc (.cells #[.int .i64 0, .int .i64 0, .int .i64 0, .int .i64 0, .int .i64 0, .int .i64 0, .int .i64 0, .int .i64 0, .int .i64 0, .int .i64 0, .int .i64 0, .int .i64 0, .int .i64 0, .int .i64 0, .int .i64 0, .int .i64 0, .int .i64 0, .int .i64 0] 36))
  have HS1 := Lib.hid (HA.out.fr hf id).lt
  clear hf
  go_wp2_with (first
    | (with_reducible refine wpList_storeQ (x := .tmp 4) (y := .tmp 9) (q := (⟨0, 0, 0, 0, 0, 0, 0, 0, 0, 0, 0, 0, 0, 0, 0, 0, 0, 0⟩ : Rq)) ?_ ?_ HB1.out ?_ ?_); rfl; rfl; rfl; intro w2 hb2 hf2; have HA2 := Lib.hid (HA1.out.fr hf2 (by have := HS1.out; omega)); have HF2 := Lib.hid (HF1.out.then hf2 (fun k hk hlt => by have := HS1.out; omega)); clear hb2 hf2
    | (with_reducible refine wpList_storeQ (x := .tmp 2) (y := .tmp 13) (q := (⟨0, 0, 0, 0, 0, 0, 0, 0, 0, 0, 0, 0, 0, 0, 0, 0, 0, 0⟩ : Rq)) ?_ ?_ HA2.out ?_ ?_); rfl; rfl; rfl; intro w3 hb3 hf3; have HA3 := Lib.hid hb3; have HF3 := Lib.hid (HF2.out.then hf3 (fun k hk hlt => by omega)); clear hb3 hf3)
  exact bodyPost_ret (v := .tuple #[.agg (qc (⟨0, 0, 0, 0, 0, 0, 0, 0, 0, 0, 0, 0, 0, 0, 0, 0, 0, 0⟩ : Rq)), .int .i64 8]) (res_run2 rfl rfl Try.req_str HA3.out rfl rfl) rfl ⟨rfl, HF3.out⟩
end
end Go.Proofs.Ytdfggjniemncgaa.CodecF
