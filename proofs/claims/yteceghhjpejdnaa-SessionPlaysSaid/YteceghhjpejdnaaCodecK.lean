/- Chapter 29: the walks of only, Only, Same, Good. -/
import Derived.Test.YteceghhjpejdnaaCodecJ
import Derived.Test.YteceghhjpejdnaaCodecD
import Derived.RegionTactic
namespace Go.Proofs.Yteceghhjpejdnaa.CodecK
open Go.RowKit Base Big Slices CodecA CodecB CodecC CodecI CodecJ
set_option linter.unusedVariables false
set_option linter.unusedSimpArgs false

abbrev zQ : Rq := (⟨0, 0, 0, 0, 0, 0, 0, 0, 0, 0, 0, 0, 0, 0, 0, 0, 0, 0⟩ : Rq)
/-- a's numbers at the places l are r's -/
def copyQ (a r : Rq) (l : List Nat) : Rq := l.foldl (fun a o => setN a o (num r o)) a
open Classical in
noncomputable def onlyQ (r : Rq) : Rq := if GoodQ r then copyQ (bareQ r) r (offs r) else zQ
theorem only_good {r : Rq} (h : GoodQ r) : onlyQ r = copyQ (bareQ r) r (offs r) := by unfold onlyQ; rw [if_pos h]
theorem only_bad {r : Rq} (h : ¬ GoodQ r) : onlyQ r = zQ := by unfold onlyQ; rw [if_neg h]
theorem copy_snoc (a r : Rq) (l : List Nat) (o : Nat) : copyQ a r (l ++ [o]) = setN (copyQ a r l) o (num r o) := by simp [copyQ]
theorem bare_good {r : Rq} (h : GoodQ r) : GoodQ (bareQ r) := by
  unfold bareQ GoodQ at *
  split <;> dsimp only <;> omega
theorem bare_offs {r : Rq} (h : GoodQ r) : offs (bareQ r) = offs r := by
  unfold GoodQ at h
  unfold bareQ offs
  by_cases h1 : r.k = 1
  · simp only [if_pos h1]
    rfl
  · simp only [if_neg h1]
    rfl

section
variable (w : World)
theorem only_no (r : Rq) (hg : ¬ GoodQ r) : Calls Try.prog 43 #[.agg (qc r)] w fun e w' => e = .returned (.agg (qc zQ)) ∧ Fr Nil w w' := by
  have HA := Lib.hid (new' (g := w.heap.size + 1) (w := w.alloc (.cells (qc r) 40)) (t := 40) (cs := #[.int .i64 0, .int .i64 0, .int .i64 0, .int .i64 0, .int .i64 0, .int .i64 0, .int .i64 0, .int .i64 0, .int .i64 0, .int .i64 0, .int .i64 0, .int .i64 0, .int .i64 0, .int .i64 0, .int .i64 0, .int .i64 0, .int .i64 0, .int .i64 0]) (by simp))
  have HB := Lib.hid ((Bk.new w 40 (qc r)).alloc (.cells #[.int .i64 0, .int .i64 0, .int .i64 0, .int .i64 0, .int .i64 0, .int .i64 0, .int .i64 0, .int .i64 0, .int .i64 0, .int .i64 0, .int .i64 0, .int .i64 0, .int .i64 0, .int .i64 0, .int .i64 0, .int .i64 0, .int .i64 0, .int .i64 0] 40))
  have G0 := Lib.hid (((Fr.refl Nil w).alloc (.cells (qc r) 40)).alloc (.cells #[.int .i64 0, .int .i64 0, .int .i64 0, .int .i64 0, .int .i64 0, .int .i64 0, .int .i64 0, .int .i64 0, .int .i64 0, .int .i64 0, .int .i64 0, .int .i64 0, .int .i64 0, .int .i64 0, .int .i64 0, .int .i64 0, .int .i64 0, .int .i64 0] 40))
  have KG := Lib.hid (fun W => (show Calls Try.prog 41 #[.agg (qc r)] W fun e w' => Tells (GoodQ r) e ∧ Fr Nil W w' from good_any W r))
  have HG := Lib.hid hg
  clear hg
  go_enter Try.func43, Try.ntmps43
  go_wp2_with (first
    | (with_reducible refine wpList_loadQ (dst := some 7) ?_ HB.out ?_); rfl)
  refine (KG.out _).mono ?_
  rintro e w1 ⟨⟨b, rfl, hb⟩, hf1⟩
  obtain rfl : b = false := by
    cases b with
    | false => rfl
    | true => exact absurd (hb.1 rfl) HG.out
  have HA1 := Lib.hid (HA.out.fr hf1 id)
  have HF1 := Lib.hid (G0.out.trans hf1)
  clear hb hf1
  go_wp2_with (first
    | (with_reducible refine wpList_storeQ (x := .tmp 2) (y := .tmp 10) (q := zQ) ?_ ?_ HA1.out ?_ ?_); rfl; rfl; rfl; intro w2 hb2 hf2; have HA2 := Lib.hid hb2; have HF2 := Lib.hid (HF1.out.then hf2 (fun k hk hlt => by omega)); clear hb2 hf2)
  exact bodyPost_ret (v := .agg (qc zQ)) (res_run rfl rfl Try.req_str HA2.out rfl) rfl ⟨rfl, HF2.out⟩

set_option maxHeartbeats 1000000 in
theorem only_yes (r : Rq) (hg : GoodQ r) : Calls Try.prog 43 #[.agg (qc r)] w fun e w' => e = .returned (.agg (qc (onlyQ r))) ∧ Fr Nil w w' := by
  have HA := Lib.hid (new' (g := w.heap.size + 1) (w := w.alloc (.cells (qc r) 40)) (t := 40) (cs := #[.int .i64 0, .int .i64 0, .int .i64 0, .int .i64 0, .int .i64 0, .int .i64 0, .int .i64 0, .int .i64 0, .int .i64 0, .int .i64 0, .int .i64 0, .int .i64 0, .int .i64 0, .int .i64 0, .int .i64 0, .int .i64 0, .int .i64 0, .int .i64 0]) (by simp))
  have HB := Lib.hid ((Bk.new w 40 (qc r)).alloc (.cells #[.int .i64 0, .int .i64 0, .int .i64 0, .int .i64 0, .int .i64 0, .int .i64 0, .int .i64 0, .int .i64 0, .int .i64 0, .int .i64 0, .int .i64 0, .int .i64 0, .int .i64 0, .int .i64 0, .int .i64 0, .int .i64 0, .int .i64 0, .int .i64 0] 40))
  have G0 := Lib.hid (((Fr.refl Nil w).alloc (.cells (qc r) 40)).alloc (.cells #[.int .i64 0, .int .i64 0, .int .i64 0, .int .i64 0, .int .i64 0, .int .i64 0, .int .i64 0, .int .i64 0, .int .i64 0, .int .i64 0, .int .i64 0, .int .i64 0, .int .i64 0, .int .i64 0, .int .i64 0, .int .i64 0, .int .i64 0, .int .i64 0] 40))
  have KG := Lib.hid (fun W => (show Calls Try.prog 41 #[.agg (qc r)] W fun e w' => Tells (GoodQ r) e ∧ Fr Nil W w' from good_any W r))
  have KB := Lib.hid (fun W => bare_any W r hg)
  have KF1 := Lib.hid (fun W g (h : Bk W g 40 (qc r)) => fields_any W r hg h)
  have KF2 := Lib.hid (fun W g (h : Bk W g 40 (qc (bareQ r))) => fields_any W (bareQ r) (bare_good hg) h)
  rw [bare_offs hg] at KF2
  have HO := Lib.hid (CodecD.offs_lt r)
  have hn := Lib.hid (CodecD.offs_len r)
  have HOnly := Lib.hid (only_good hg)
  have HG := Lib.hid hg
  generalize offs r = os at *
  generalize bareQ r = q0 at *
  generalize hn' : os.length = n at *
  clear hg
  go_enter Try.func43, Try.ntmps43
  go_wp2_with (first
    | (with_reducible refine wpList_loadQ (dst := some 7) ?_ HB.out ?_); rfl)
  refine (KG.out _).mono ?_
  rintro e w1 ⟨⟨b, rfl, hb⟩, hf1⟩
  obtain rfl : b = true := hb.2 HG.out
  have HA1 := Lib.hid (HA.out.fr hf1 id)
  have HB1 := Lib.hid (HB.out.fr hf1 id)
  have HF1 := Lib.hid (G0.out.trans hf1)
  clear hb hf1 HA HB G0
  go_wp2_with (first
    | (with_reducible refine wpList_loadQ (dst := some 11) ?_ HB1.out ?_); rfl)
  refine (KB.out _).mono ?_
  rintro e w2 ⟨rfl, hf2⟩
  have HA2 := Lib.hid ((HA1.out.fr hf2 id).alloc (.cells #[.int .i64 0, .int .i64 0, .int .i64 0, .int .i64 0, .int .i64 0, .int .i64 0, .int .i64 0, .int .i64 0, .int .i64 0, .int .i64 0, .int .i64 0, .int .i64 0, .int .i64 0, .int .i64 0, .int .i64 0, .int .i64 0, .int .i64 0, .int .i64 0] 40))
  have HB2 := Lib.hid ((HB1.out.fr hf2 id).alloc (.cells #[.int .i64 0, .int .i64 0, .int .i64 0, .int .i64 0, .int .i64 0, .int .i64 0, .int .i64 0, .int .i64 0, .int .i64 0, .int .i64 0, .int .i64 0, .int .i64 0, .int .i64 0, .int .i64 0, .int .i64 0, .int .i64 0, .int .i64 0, .int .i64 0] 40))
  have HC2 := Lib.hid (Bk.new w2 40 #[.int .i64 0, .int .i64 0, .int .i64 0, .int .i64 0, .int .i64 0, .int .i64 0, .int .i64 0, .int .i64 0, .int .i64 0, .int .i64 0, .int .i64 0, .int .i64 0, .int .i64 0, .int .i64 0, .int .i64 0, .int .i64 0, .int .i64 0, .int .i64 0])
  have HF2 := Lib.hid ((HF1.out.trans hf2).alloc (.cells #[.int .i64 0, .int .i64 0, .int .i64 0, .int .i64 0, .int .i64 0, .int .i64 0, .int .i64 0, .int .i64 0, .int .i64 0, .int .i64 0, .int .i64 0, .int .i64 0, .int .i64 0, .int .i64 0, .int .i64 0, .int .i64 0, .int .i64 0, .int .i64 0] 40))
  have HS2 := Lib.hid (HA1.out.fr hf2 id).lt
  clear hf2 HA1 HB1 HF1
  go_wp2_with (first
    | (with_reducible refine wpList_storeQ (x := .tmp 3) (y := .tmp 12) (q := q0) ?_ ?_ HC2.out ?_ ?_); rfl; rfl; rfl; intro w3 hb3 hf3; have HC3 := Lib.hid hb3; have HA3 := Lib.hid (HA2.out.fr hf3 (by have := HS2.out; omega)); have HB3 := Lib.hid (HB2.out.fr hf3 (by have := HS2.out; omega)); have HF3 := Lib.hid (HF2.out.then hf3 (fun k hk hlt => by have := HS2.out; omega)); clear hb3 hf3)
  refine Calls.mono (KF1.out _ _ ?_) ?_
  · exact HB3.out
  rintro e w4 ⟨b1, rfl, hb4, hf4, hs4⟩
  have HP4 := Lib.hid hb4
  have HA4 := Lib.hid (HA3.out.fr hf4 id)
  have HB4 := Lib.hid (HB3.out.fr hf4 id)
  have HC4 := Lib.hid (HC3.out.fr hf4 id)
  have HF4 := Lib.hid (HF3.out.trans hf4)
  have HS4 := Lib.hid (show w2.heap.size < b1 by have := HC3.out.lt; omega)
  clear hb4 hf4 hs4 HA3 HB3 HC3 HF3 HA2 HB2 HC2 HF2
  go_wp2_with fail
  refine Calls.mono (KF2.out _ _ ?_) ?_
  · exact HC4.out
  rintro e w5 ⟨b2, rfl, hb5, hf5, hs5⟩
  have HP5 := Lib.hid (HP4.out.fr hf5 id)
  have HQ5 := Lib.hid hb5
  have HA5 := Lib.hid (HA4.out.fr hf5 id)
  have HB5 := Lib.hid (HB4.out.fr hf5 id)
  have HC5 := Lib.hid (HC4.out.fr hf5 id)
  have HF5 := Lib.hid (HF4.out.trans hf5)
  have HS5 := Lib.hid (show w2.heap.size < b2 by have := HC4.out.lt; omega)
  clear hb5 hf5 hs5 HP4 HA4 HB4 HC4 HF4
  generalize w2.heap.size = g3 at *
  go_wp2_with fail
  go_loopw [16] (fun i wr => ∃ (k : Nat), k ≤ n ∧ i = .int .i64 k ∧ Bk wr g3 40 (qc (copyQ q0 r (os.take k))) ∧ Bk wr w.heap.size 40 (qc r) ∧ Bk wr b1 87 (ptrs w.heap.size os) ∧ Bk wr b2 87 (ptrs g3 os) ∧ Bk wr (w.heap.size + 1) 40 #[.int .i64 0, .int .i64 0, .int .i64 0, .int .i64 0, .int .i64 0, .int .i64 0, .int .i64 0, .int .i64 0, .int .i64 0, .int .i64 0, .int .i64 0, .int .i64 0, .int .i64 0, .int .i64 0, .int .i64 0, .int .i64 0, .int .i64 0, .int .i64 0] ∧ Fr Nil w wr) (fun i _ => n - (intOf i).toNat)
  case atStart => exact ⟨0, by omega, rfl, HC5.out, HB5.out, HP5.out, HQ5.out, HA5.out, HF5.out⟩
  case round =>
    obtain ⟨k, hk, rfl, hC, hB, hP, hQ, hA, hF⟩ := hrel
    have HC := Lib.hid hC
    have HB := Lib.hid hB
    have HP := Lib.hid hP
    have HQ := Lib.hid hQ
    have HA := Lib.hid hA
    have HF := Lib.hid hF
    by_cases hlt : k < n
    · obtain ⟨o, ho'⟩ : ∃ o, os[k]? = some o := ⟨os[k], List.getElem?_eq_getElem (by omega)⟩
      have ho18 := HO.out o (List.mem_of_getElem? ho')
      have HT := Lib.hid (show copyQ q0 r (os.take (k + 1)) = setN (copyQ q0 r (os.take k)) o (num r o) by
        obtain ⟨h1, h2⟩ := List.getElem?_eq_some_iff.1 ho'
        rw [List.take_succ_eq_append_getElem h1, h2, copy_snoc])
      have hp : wr.cell? ⟨b1, k, none⟩ = some (.pointer (some ⟨w.heap.size, o, none⟩)) := by
        rw [hP.cell]
        exact CodecB.ptrs_at ho'
      have hq : wr.cell? ⟨b2, k, none⟩ = some (.pointer (some ⟨g3, o, none⟩)) := by
        rw [hQ.cell]
        exact CodecB.ptrs_at ho'
      have hc : wr.cell? ⟨w.heap.size, o, none⟩ = some (.int .i64 (num r o)) := by
        rw [hB.cell]
        exact qi_cell r ho18
      obtain ⟨n5, hn5⟩ := CodecD.cell_int (copyQ q0 r (os.take k)) ho18
      have hd : wr.cell? ⟨g3, o, none⟩ = some (.int .i64 n5) := by rw [hC.cell]; exact hn5
      have hf : wr.frozen? ⟨g3, o, none⟩ = false := hC.frozen o
      have HO18 := Lib.hid ho18
      have hlt' : (k : Int) < n := by omega
      have hk9 : (k : Int) ≤ 4 := by have := hn.out; omega
      clear hn5 hC hB hP hQ hA hF ho' ho18
      go_wp2_with fail
      go_roundw
      case rel =>
        have hW : Fr (fun k => k = g3) wr (wr.setCell ⟨g3, o, none⟩ (.int .i64 (num r o))) := Fr.setCell (S := fun k => k = g3) (Fr.refl _ _) (fun _ => rfl) _
        have h2 := HS2.out
        have h4 := HS4.out
        have h5 := HS5.out
        refine ⟨k + 1, by omega, by go_num, ?_, HB.out.fr hW (by omega), HP.out.fr hW (by omega), HQ.out.fr hW (by omega), HA.out.fr hW (by omega), HF.out.then hW (fun k hk hlt => by omega)⟩
        rw [HT.out, ← setN_cells _ (num r o) HO18.out]
        exact HC.out.put o _
      case measure => simp [intOf]; omega
    · obtain rfl : k = n := by omega
      have HC9 := Lib.hid (show Bk wr g3 40 (qc (onlyQ r)) by rw [HOnly.out]; rwa [List.take_of_length_le (by omega)] at hC)
      clear hC hB hP hQ hA hF
      go_wp2_with (first
        | (with_reducible refine wpList_loadQ (dst := some 30) ?_ HC9.out ?_); rfl
        | (with_reducible refine wpList_storeQ (x := .tmp 2) (y := .tmp 30) (q := onlyQ r) ?_ ?_ HA.out ?_ ?_); rfl; rfl; rfl; intro w6 hb6 hf6; have HA6 := Lib.hid hb6; have HF6 := Lib.hid (HF.out.then hf6 (fun k hk hlt => by omega)); clear hb6 hf6)
      exact bodyPost_ret (v := .agg (qc (onlyQ r))) (res_run rfl rfl Try.req_str HA6.out rfl) rfl ⟨rfl, HF6.out⟩

theorem only_any (r : Rq) : Calls Try.prog 43 #[.agg (qc r)] w fun e w' => e = .returned (.agg (qc (onlyQ r))) ∧ Fr Nil w w' := by
  by_cases hg : GoodQ r
  · exact only_yes w r hg
  · rw [only_bad hg]; exact only_no w r hg

theorem Only_any (r : Rq) : Calls Try.prog 34 #[.agg (qc r)] w fun e w' => e = .returned (.agg (qc (onlyQ r))) ∧ Fr Nil w w' := by
  have HA := Lib.hid (new' (g := w.heap.size + 1) (w := w.alloc (.cells (qc r) 40)) (t := 40) (cs := #[.int .i64 0, .int .i64 0, .int .i64 0, .int .i64 0, .int .i64 0, .int .i64 0, .int .i64 0, .int .i64 0, .int .i64 0, .int .i64 0, .int .i64 0, .int .i64 0, .int .i64 0, .int .i64 0, .int .i64 0, .int .i64 0, .int .i64 0, .int .i64 0]) (by simp))
  have HB := Lib.hid ((Bk.new w 40 (qc r)).alloc (.cells #[.int .i64 0, .int .i64 0, .int .i64 0, .int .i64 0, .int .i64 0, .int .i64 0, .int .i64 0, .int .i64 0, .int .i64 0, .int .i64 0, .int .i64 0, .int .i64 0, .int .i64 0, .int .i64 0, .int .i64 0, .int .i64 0, .int .i64 0, .int .i64 0] 40))
  have G0 := Lib.hid (((Fr.refl Nil w).alloc (.cells (qc r) 40)).alloc (.cells #[.int .i64 0, .int .i64 0, .int .i64 0, .int .i64 0, .int .i64 0, .int .i64 0, .int .i64 0, .int .i64 0, .int .i64 0, .int .i64 0, .int .i64 0, .int .i64 0, .int .i64 0, .int .i64 0, .int .i64 0, .int .i64 0, .int .i64 0, .int .i64 0] 40))
  have KO := Lib.hid (fun W => only_any W r)
  go_enter Try.func34, Try.ntmps34
  go_wp2_with (first
    | (with_reducible refine wpList_loadQ (dst := some 3) ?_ HB.out ?_); rfl)
  refine (KO.out _).mono ?_
  rintro e w1 ⟨rfl, hf1⟩
  have HA1 := Lib.hid (HA.out.fr hf1 id)
  have HF1 := Lib.hid (G0.out.trans hf1)
  clear hf1
  go_wp2_with (first
    | (with_reducible refine wpList_storeQ (x := .tmp 2) (y := .tmp 4) (q := onlyQ r) ?_ ?_ HA1.out ?_ ?_); rfl; rfl; rfl; intro w2 hb2 hf2; have HA2 := Lib.hid hb2; have HF2 := Lib.hid (HF1.out.then hf2 (fun k hk hlt => by omega)); clear hb2 hf2)
  exact bodyPost_ret (v := .agg (qc (onlyQ r))) (res_run rfl rfl Try.req_str HA2.out rfl) rfl ⟨rfl, HF2.out⟩

theorem Good_any (r : Rq) : Calls Try.prog 31 #[.agg (qc r)] w fun e w' => Tells (GoodQ r) e ∧ Fr Nil w w' := by
  have HB := Lib.hid (Bk.new w 40 (qc r))
  have G0 := Lib.hid ((Fr.refl Nil w).alloc (.cells (qc r) 40))
  have KG := Lib.hid (fun W => (show Calls Try.prog 41 #[.agg (qc r)] W fun e w' => Tells (GoodQ r) e ∧ Fr Nil W w' from good_any W r))
  go_enter Try.func31, Try.ntmps31
  go_wp2_with (first
    | (with_reducible refine wpList_loadQ (dst := some 3) ?_ HB.out ?_); rfl)
  refine (KG.out _).mono ?_
  rintro e w1 ⟨⟨b, rfl, hb⟩, hf1⟩
  have HF1 := Lib.hid (G0.out.trans hf1)
  have HT := Lib.hid (show Tells (GoodQ r) (.returned (.bool b)) from ⟨b, rfl, hb⟩)
  clear hb hf1
  go_wp2_with fail
  go_ret
  exact ⟨HT.out, HF1.out⟩

set_option maxHeartbeats 1000000 in
theorem refgood_any (r : Rq) : Calls Try.prog 38 #[.agg (qc r)] w fun e w' => Tells (GoodQ r) e ∧ Fr Nil w w' := by
  have HB := Bk.new w 40 (qc r)
  have G0 := Lib.hid ((Fr.refl Nil w).alloc (.cells (qc r) 40))
  have c0 : (w.alloc (.cells (qc r) 40)).cell? ⟨w.heap.size, 0, none⟩ = some (.int .i64 r.k) := HB.cell 0
  have c1 : (w.alloc (.cells (qc r) 40)).cell? ⟨w.heap.size, 1, none⟩ = some (.int .i64 r.ck) := HB.cell 1
  have c8 : (w.alloc (.cells (qc r) 40)).cell? ⟨w.heap.size, 8, none⟩ = some (.int .i64 r.qk) := HB.cell 8
  have HG := Lib.hid (show GoodQ r ↔ (r.k = 1 ∧ 1 ≤ r.ck ∧ r.ck ≤ 4) ∨ (r.k = 2 ∧ 1 ≤ r.qk ∧ r.qk ≤ 7) from Iff.rfl)
  generalize GoodQ r = G at HG ⊢
  generalize qc r = cs at *
  generalize r.k = k at *
  generalize r.ck = ck at *
  generalize r.qk = qk at *
  clear HB
  by_cases h1 : k = 1
  · subst h1
    by_cases h2 : 1 ≤ ck
    · by_cases h3 : ck ≤ 4
      · go_enter Try.func38, Try.ntmps38
        go_wp2_with fail
        go_ret
        exact ⟨Tells.yes (by rw [HG.out]; simp [h2, h3]), G0.out⟩
      · go_enter Try.func38, Try.ntmps38
        go_wp2_with fail
        go_ret
        exact ⟨Tells.no (by rw [HG.out]; omega), G0.out⟩
    · go_enter Try.func38, Try.ntmps38
      go_wp2_with fail
      go_ret
      exact ⟨Tells.no (by rw [HG.out]; omega), G0.out⟩
  · by_cases h4 : k = 2
    · subst h4
      by_cases h2 : 1 ≤ qk
      · by_cases h3 : qk ≤ 7
        · go_enter Try.func38, Try.ntmps38
          go_wp2_with fail
          go_ret
          exact ⟨Tells.yes (by rw [HG.out]; simp [h2, h3]), G0.out⟩
        · go_enter Try.func38, Try.ntmps38
          go_wp2_with fail
          go_ret
          exact ⟨Tells.no (by rw [HG.out]; omega), G0.out⟩
      · go_enter Try.func38, Try.ntmps38
        go_wp2_with fail
        go_ret
        exact ⟨Tells.no (by rw [HG.out]; omega), G0.out⟩
    · go_enter Try.func38, Try.ntmps38
      go_wp2_with fail
      go_ret
      exact ⟨Tells.no (by rw [HG.out]; omega), G0.out⟩
end
end Go.Proofs.Yteceghhjpejdnaa.CodecK
