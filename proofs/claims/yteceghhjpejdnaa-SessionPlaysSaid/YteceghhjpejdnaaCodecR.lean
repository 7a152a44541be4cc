/- Chapter 29: the walk of ref.Only. -/
import Derived.Test.YteceghhjpejdnaaCodecQ
namespace Go.Proofs.Yteceghhjpejdnaa.CodecR
open Go.RowKit Base Big Slices CodecA CodecB CodecC CodecJ CodecK CodecM
set_option linter.unusedVariables false
set_option linter.unusedSimpArgs false

theorem putN {w : World} {g : Nat} {t : TypeId} {q : Rq} (h : Bk w g t (qc q)) (o : Nat) (ho : o < 18) (v : Int) : Bk (w.setCell ⟨g, o, none⟩ (.int .i64 v)) g t (qc (setN q o v)) := by
  rw [← setN_cells q v ho]
  exact h.put o _

section
variable (w : World)
set_option maxRecDepth 100000 in
set_option maxHeartbeats 16000000 in
theorem refonly_1 (r : Rq) (hg : GoodQ r) (hk1 : r.k = 1) : Calls Try.prog 39 #[.agg (qc r)] w fun e w' => e = .returned (.agg (qc (onlyQ r))) ∧ Fr Nil w w' := by
  have HOn := Lib.hid (only_good hg)
  have HB := Lib.hid (((Bk.new w 40 (qc r)).alloc (.cells #[.int .i64 0, .int .i64 0, .int .i64 0, .int .i64 0, .int .i64 0, .int .i64 0, .int .i64 0, .int .i64 0, .int .i64 0, .int .i64 0, .int .i64 0, .int .i64 0, .int .i64 0, .int .i64 0, .int .i64 0, .int .i64 0, .int .i64 0, .int .i64 0] 40)).alloc (.cells #[.int .i64 0, .int .i64 0, .int .i64 0, .int .i64 0, .int .i64 0, .int .i64 0, .int .i64 0, .int .i64 0, .int .i64 0, .int .i64 0, .int .i64 0, .int .i64 0, .int .i64 0, .int .i64 0, .int .i64 0, .int .i64 0, .int .i64 0, .int .i64 0] 40))
  have HA := Lib.hid ((new' (g := w.heap.size + 1) (w := w.alloc (.cells (qc r) 40)) (t := 40) (cs := #[.int .i64 0, .int .i64 0, .int .i64 0, .int .i64 0, .int .i64 0, .int .i64 0, .int .i64 0, .int .i64 0, .int .i64 0, .int .i64 0, .int .i64 0, .int .i64 0, .int .i64 0, .int .i64 0, .int .i64 0, .int .i64 0, .int .i64 0, .int .i64 0]) (by simp)).alloc (.cells #[.int .i64 0, .int .i64 0, .int .i64 0, .int .i64 0, .int .i64 0, .int .i64 0, .int .i64 0, .int .i64 0, .int .i64 0, .int .i64 0, .int .i64 0, .int .i64 0, .int .i64 0, .int .i64 0, .int .i64 0, .int .i64 0, .int .i64 0, .int .i64 0] 40))
  have HC := Lib.hid (new' (g := w.heap.size + 1 + 1) (w := (w.alloc (.cells (qc r) 40)).alloc (.cells #[.int .i64 0, .int .i64 0, .int .i64 0, .int .i64 0, .int .i64 0, .int .i64 0, .int .i64 0, .int .i64 0, .int .i64 0, .int .i64 0, .int .i64 0, .int .i64 0, .int .i64 0, .int .i64 0, .int .i64 0, .int .i64 0, .int .i64 0, .int .i64 0] 40)) (t := 40) (cs := #[.int .i64 0, .int .i64 0, .int .i64 0, .int .i64 0, .int .i64 0, .int .i64 0, .int .i64 0, .int .i64 0, .int .i64 0, .int .i64 0, .int .i64 0, .int .i64 0, .int .i64 0, .int .i64 0, .int .i64 0, .int .i64 0, .int .i64 0, .int .i64 0]) (by simp))
  have G0 := Lib.hid ((((Fr.refl Nil w).alloc (.cells (qc r) 40)).alloc (.cells #[.int .i64 0, .int .i64 0, .int .i64 0, .int .i64 0, .int .i64 0, .int .i64 0, .int .i64 0, .int .i64 0, .int .i64 0, .int .i64 0, .int .i64 0, .int .i64 0, .int .i64 0, .int .i64 0, .int .i64 0, .int .i64 0, .int .i64 0, .int .i64 0] 40)).alloc (.cells #[.int .i64 0, .int .i64 0, .int .i64 0, .int .i64 0, .int .i64 0, .int .i64 0, .int .i64 0, .int .i64 0, .int .i64 0, .int .i64 0, .int .i64 0, .int .i64 0, .int .i64 0, .int .i64 0, .int .i64 0, .int .i64 0, .int .i64 0, .int .i64 0] 40))
  have hk := Lib.hid (kinds hg)
  have HK1 := Lib.hid hk1
  clear hk1
  clear hg
  obtain ⟨k, ck, p0, p1, p2, s0, s1, s2, qk, x1, x2, y1, y2, v1, v2, v3, xx, zz⟩ := r
  have CL := Lib.hid (fun w' (h : Bk w' w.heap.size 40 #[.int .i64 k, .int .i64 ck, .int .i64 p0, .int .i64 p1, .int .i64 p2, .int .i64 s0, .int .i64 s1, .int .i64 s2, .int .i64 qk, .int .i64 x1, .int .i64 x2, .int .i64 y1, .int .i64 y2, .int .i64 v1, .int .i64 v2, .int .i64 v3, .int .i64 xx, .int .i64 zz]) => (show w'.cell? ⟨w.heap.size, 2, none⟩ = some (.int .i64 p0) ∧ w'.cell? ⟨w.heap.size, 3, none⟩ = some (.int .i64 p1) ∧ w'.cell? ⟨w.heap.size, 4, none⟩ = some (.int .i64 p2) ∧ w'.cell? ⟨w.heap.size, 5, none⟩ = some (.int .i64 s0) ∧ w'.cell? ⟨w.heap.size, 6, none⟩ = some (.int .i64 s1) ∧ w'.cell? ⟨w.heap.size, 7, none⟩ = some (.int .i64 s2) ∧ w'.cell? ⟨w.heap.size, 8, none⟩ = some (.int .i64 qk) ∧ w'.cell? ⟨w.heap.size, 9, none⟩ = some (.int .i64 x1) ∧ w'.cell? ⟨w.heap.size, 10, none⟩ = some (.int .i64 x2) ∧ w'.cell? ⟨w.heap.size, 11, none⟩ = some (.int .i64 y1) ∧ w'.cell? ⟨w.heap.size, 12, none⟩ = some (.int .i64 y2) ∧ w'.cell? ⟨w.heap.size, 13, none⟩ = some (.int .i64 v1) ∧ w'.cell? ⟨w.heap.size, 14, none⟩ = some (.int .i64 v2) ∧ w'.cell? ⟨w.heap.size, 15, none⟩ = some (.int .i64 v3) ∧ w'.cell? ⟨w.heap.size, 16, none⟩ = some (.int .i64 xx) ∧ w'.cell? ⟨w.heap.size, 17, none⟩ = some (.int .i64 zz) from ⟨h.cell 2, h.cell 3, h.cell 4, h.cell 5, h.cell 6, h.cell 7, h.cell 8, h.cell 9, h.cell 10, h.cell 11, h.cell 12, h.cell 13, h.cell 14, h.cell 15, h.cell 16, h.cell 17⟩))
  unfold qc at *
  dsimp only at *
  go_enter Try.func39, Try.ntmps39
  go_upto_region 2 with (first
    | (with_reducible refine wpList_storeQ (x := .tmp 3) (y := .tmp 9) (q := ⟨k, 0, 0, 0, 0, 0, 0, 0, 0, 0, 0, 0, 0, 0, 0, 0, 0, 0⟩) ?_ ?_ HC.out ?_ ?_); rfl; rfl; rfl; intro w1 hb1 hf1; have HC1 := Lib.hid hb1; have HA1 := Lib.hid (HA.out.fr hf1 (by omega)); have HB1 := Lib.hid (HB.out.fr hf1 (by omega)); have HF1 := Lib.hid (G0.out.then hf1 (fun k hk hlt => by omega)); clear hb1 hf1 HA HB HC G0)
  (try simp only [Act.put])
  go_cut [4, 5, 6] (fun x3 x4 x5 wx => Parts w1 ⟨k, ck, p0, p1, p2, s0, s1, s2, qk, x1, x2, y1, y2, v1, v2, v3, xx, zz⟩ x3 x4 x5 wx)
  case first =>
    have hh := HB1.out.drew
    have lw := HB1.out.lt
    go_region_held_law (fun w' => w'.cell? ⟨w.heap.size, 2, none⟩ = some (.int .i64 p0) ∧ w'.cell? ⟨w.heap.size, 3, none⟩ = some (.int .i64 p1) ∧ w'.cell? ⟨w.heap.size, 4, none⟩ = some (.int .i64 p2) ∧ w'.cell? ⟨w.heap.size, 5, none⟩ = some (.int .i64 s0) ∧ w'.cell? ⟨w.heap.size, 6, none⟩ = some (.int .i64 s1) ∧ w'.cell? ⟨w.heap.size, 7, none⟩ = some (.int .i64 s2) ∧ w'.cell? ⟨w.heap.size, 8, none⟩ = some (.int .i64 qk) ∧ w'.cell? ⟨w.heap.size, 9, none⟩ = some (.int .i64 x1) ∧ w'.cell? ⟨w.heap.size, 10, none⟩ = some (.int .i64 x2) ∧ w'.cell? ⟨w.heap.size, 11, none⟩ = some (.int .i64 y1) ∧ w'.cell? ⟨w.heap.size, 12, none⟩ = some (.int .i64 y2) ∧ w'.cell? ⟨w.heap.size, 13, none⟩ = some (.int .i64 v1) ∧ w'.cell? ⟨w.heap.size, 14, none⟩ = some (.int .i64 v2) ∧ w'.cell? ⟨w.heap.size, 15, none⟩ = some (.int .i64 v3) ∧ w'.cell? ⟨w.heap.size, 16, none⟩ = some (.int .i64 xx) ∧ w'.cell? ⟨w.heap.size, 17, none⟩ = some (.int .i64 zz)) (first | exact CL.out _ (by repeat first | exact hh | apply Bk.alloc | apply Bk.drew | (refine Bk.far ?_ (by simp; omega) _) | (refine Bk.far ?_ (by omega) _))) (fail)
    all_goals
      go_wp2_with fail
      go_meet
      exact ⟨_, _, _, rfl, rfl, rfl, by repeat first | exact new' (by simp) | apply Bk.alloc | apply Bk.drew, by repeat first | exact new' (by simp) | apply Bk.alloc | apply Bk.drew, by repeat first | exact new' (by simp) | apply Bk.alloc | apply Bk.drew, by repeat first | exact Fr.refl _ _ | apply Fr.alloc | apply Fr.drew⟩
  case rest =>
    obtain ⟨a, b, c, rfl, rfl, rfl, hP, hS, hQ, hf⟩ := hcut
    have GF := Lib.hid (HF1.out.trans hf)
    have h0 := (HB1.out.fr hf id).cell 0
    have h1 := (HB1.out.fr hf id).cell 1
    have HA := Lib.hid (HA1.out.fr hf id)
    have HC := Lib.hid (HC1.out.fr hf id)
    have na : ¬ a = w.heap.size + 1 + 1 := fun h => by subst h; have h1 := hP; unfold Bk at h1; have h2 := HC.out; unfold Bk at h2; rw [h1] at h2; simp at h2
    have nb : ¬ b = w.heap.size + 1 + 1 := fun h => by subst h; have h1 := hS; unfold Bk at h1; have h2 := HC.out; unfold Bk at h2; rw [h1] at h2; simp at h2
    have nc : ¬ c = w.heap.size + 1 + 1 := fun h => by subst h; have h1 := hQ; unfold Bk at h1; have h2 := HC.out; unfold Bk at h2; rw [h1] at h2; simp at h2
    have na' : ¬ w.heap.size + 1 + 1 = a := fun h => na h.symm
    have nb' : ¬ w.heap.size + 1 + 1 = b := fun h => nb h.symm
    have nc' : ¬ w.heap.size + 1 + 1 = c := fun h => nc h.symm
    have hP0 := hP.cell 0
    have hP1 := hP.cell 1
    have hP2 := hP.cell 2
    have hS0 := hS.cell 0
    have hS1 := hS.cell 1
    have hS2 := hS.cell 2
    have hQ0 := hQ.cell 0
    have hQ1 := hQ.cell 1
    have hQ2 := hQ.cell 2
    have hQ3 := hQ.cell 3
    have hQ4 := hQ.cell 4
    have hQ5 := hQ.cell 5
    have hQ6 := hQ.cell 6
    have hQ7 := hQ.cell 7
    have hQ8 := hQ.cell 8
    have hQ9 := hQ.cell 9
    have HD := Lib.hid (c18 HC.out)
    simp only [List.getElem?_toArray, List.getElem?_cons_succ, List.getElem?_cons_zero] at *
    clear hf hP hS hQ HB1 HF1 CL HA1 HC1
    rcases hk.out with ⟨hk1, hc⟩ | ⟨hk1, hc⟩
    all_goals
      (try dsimp only at hk1 hc)
      clear hk
      have hk1' := HK1.out
      (try dsimp only at hk1')
      clear HK1
      subst hk1
    · clear hk1'
      rcases hc with rfl | rfl | rfl | rfl
      · have HQ := Lib.hid (show onlyQ ⟨1, 1, p0, p1, p2, s0, s1, s2, qk, x1, x2, y1, y2, v1, v2, v3, xx, zz⟩ = ⟨1, 1, p0, p1, p2, 0, 0, 0, 0, 0, 0, 0, 0, 0, 0, 0, 0, 0⟩ by rw [HOn.out]; simp [copyQ, bareQ, offs, num, qi, setN])
        obtain ⟨_, d1, d2, d3, d4, _, _, _, _, _, _, _, _, _, _, _, _, _, _, e1, e2, e3, e4, _, _, _, _, _, _, _, _, _, _, _, _, _⟩ := HD.out
        go_wp2_with (first
          | (with_reducible refine wpList_loadQ (g := w.heap.size + 1 + 1) (dst := some 58) (q := ⟨1, 1, p0, p1, p2, 0, 0, 0, 0, 0, 0, 0, 0, 0, 0, 0, 0, 0⟩) ?_ ?_ ?_); rfl; exact (putN (putN (putN (putN HC.out 1 (by decide) _) 2 (by decide) _) 3 (by decide) _) 4 (by decide) _)
          | (with_reducible refine wpList_storeQ (g := w.heap.size + 1) (x := .tmp 2) (y := .tmp 58) (q := ⟨1, 1, p0, p1, p2, 0, 0, 0, 0, 0, 0, 0, 0, 0, 0, 0, 0, 0⟩) (old := #[.int .i64 0, .int .i64 0, .int .i64 0, .int .i64 0, .int .i64 0, .int .i64 0, .int .i64 0, .int .i64 0, .int .i64 0, .int .i64 0, .int .i64 0, .int .i64 0, .int .i64 0, .int .i64 0, .int .i64 0, .int .i64 0, .int .i64 0, .int .i64 0]) ?_ ?_ ?_ ?_ ?_); rfl; rfl; (iterate 4 (refine Bk.far ?_ (by simp) _)); exact HA.out; rfl; intro w6 hb6 hf6; have HA6 := Lib.hid hb6; have HF6 := Lib.hid (Fr.then (S := Nil) (a := w) (by (iterate 4 (refine Fr.setCell ?_ (fun h => by simp at h; omega) _)); exact GF.out) hf6 (fun k hk hlt => by omega)); clear hb6 hf6)
        exact bodyPost_ret (v := .agg (qc ⟨1, 1, p0, p1, p2, 0, 0, 0, 0, 0, 0, 0, 0, 0, 0, 0, 0, 0⟩)) (res_run rfl rfl Try.req_str HA6.out rfl) rfl ⟨by rw [← HQ.out]; rfl, HF6.out⟩
      · have HQ := Lib.hid (show onlyQ ⟨1, 2, p0, p1, p2, s0, s1, s2, qk, x1, x2, y1, y2, v1, v2, v3, xx, zz⟩ = ⟨1, 2, p0, 0, 0, 0, 0, 0, 0, 0, 0, 0, 0, 0, 0, 0, 0, 0⟩ by rw [HOn.out]; simp [copyQ, bareQ, offs, num, qi, setN])
        obtain ⟨_, d1, d2, _, _, _, _, _, _, _, _, _, _, _, _, _, _, _, _, e1, e2, _, _, _, _, _, _, _, _, _, _, _, _, _, _, _⟩ := HD.out
        go_wp2_with (first
          | (with_reducible refine wpList_loadQ (g := w.heap.size + 1 + 1) (dst := some 58) (q := ⟨1, 2, p0, 0, 0, 0, 0, 0, 0, 0, 0, 0, 0, 0, 0, 0, 0, 0⟩) ?_ ?_ ?_); rfl; exact (putN (putN HC.out 1 (by decide) _) 2 (by decide) _)
          | (with_reducible refine wpList_storeQ (g := w.heap.size + 1) (x := .tmp 2) (y := .tmp 58) (q := ⟨1, 2, p0, 0, 0, 0, 0, 0, 0, 0, 0, 0, 0, 0, 0, 0, 0, 0⟩) (old := #[.int .i64 0, .int .i64 0, .int .i64 0, .int .i64 0, .int .i64 0, .int .i64 0, .int .i64 0, .int .i64 0, .int .i64 0, .int .i64 0, .int .i64 0, .int .i64 0, .int .i64 0, .int .i64 0, .int .i64 0, .int .i64 0, .int .i64 0, .int .i64 0]) ?_ ?_ ?_ ?_ ?_); rfl; rfl; (iterate 2 (refine Bk.far ?_ (by simp) _)); exact HA.out; rfl; intro w6 hb6 hf6; have HA6 := Lib.hid hb6; have HF6 := Lib.hid (Fr.then (S := Nil) (a := w) (by (iterate 2 (refine Fr.setCell ?_ (fun h => by simp at h; omega) _)); exact GF.out) hf6 (fun k hk hlt => by omega)); clear hb6 hf6)
        exact bodyPost_ret (v := .agg (qc ⟨1, 2, p0, 0, 0, 0, 0, 0, 0, 0, 0, 0, 0, 0, 0, 0, 0, 0⟩)) (res_run rfl rfl Try.req_str HA6.out rfl) rfl ⟨by rw [← HQ.out]; rfl, HF6.out⟩
      · have HQ := Lib.hid (show onlyQ ⟨1, 3, p0, p1, p2, s0, s1, s2, qk, x1, x2, y1, y2, v1, v2, v3, xx, zz⟩ = ⟨1, 3, 0, 0, 0, s0, s1, s2, 0, 0, 0, 0, 0, 0, 0, 0, 0, 0⟩ by rw [HOn.out]; simp [copyQ, bareQ, offs, num, qi, setN])
        obtain ⟨_, d1, _, _, _, d5, d6, d7, _, _, _, _, _, _, _, _, _, _, _, e1, _, _, _, e5, e6, e7, _, _, _, _, _, _, _, _, _, _⟩ := HD.out
        go_wp2_with (first
          | (with_reducible refine wpList_loadQ (g := w.heap.size + 1 + 1) (dst := some 58) (q := ⟨1, 3, 0, 0, 0, s0, s1, s2, 0, 0, 0, 0, 0, 0, 0, 0, 0, 0⟩) ?_ ?_ ?_); rfl; exact (putN (putN (putN (putN HC.out 1 (by decide) _) 5 (by decide) _) 6 (by decide) _) 7 (by decide) _)
          | (with_reducible refine wpList_storeQ (g := w.heap.size + 1) (x := .tmp 2) (y := .tmp 58) (q := ⟨1, 3, 0, 0, 0, s0, s1, s2, 0, 0, 0, 0, 0, 0, 0, 0, 0, 0⟩) (old := #[.int .i64 0, .int .i64 0, .int .i64 0, .int .i64 0, .int .i64 0, .int .i64 0, .int .i64 0, .int .i64 0, .int .i64 0, .int .i64 0, .int .i64 0, .int .i64 0, .int .i64 0, .int .i64 0, .int .i64 0, .int .i64 0, .int .i64 0, .int .i64 0]) ?_ ?_ ?_ ?_ ?_); rfl; rfl; (iterate 4 (refine Bk.far ?_ (by simp) _)); exact HA.out; rfl; intro w6 hb6 hf6; have HA6 := Lib.hid hb6; have HF6 := Lib.hid (Fr.then (S := Nil) (a := w) (by (iterate 4 (refine Fr.setCell ?_ (fun h => by simp at h; omega) _)); exact GF.out) hf6 (fun k hk hlt => by omega)); clear hb6 hf6)
        exact bodyPost_ret (v := .agg (qc ⟨1, 3, 0, 0, 0, s0, s1, s2, 0, 0, 0, 0, 0, 0, 0, 0, 0, 0⟩)) (res_run rfl rfl Try.req_str HA6.out rfl) rfl ⟨by rw [← HQ.out]; rfl, HF6.out⟩
      · have HQ := Lib.hid (show onlyQ ⟨1, 4, p0, p1, p2, s0, s1, s2, qk, x1, x2, y1, y2, v1, v2, v3, xx, zz⟩ = ⟨1, 4, 0, 0, 0, s0, 0, 0, 0, 0, 0, 0, 0, 0, 0, 0, 0, 0⟩ by rw [HOn.out]; simp [copyQ, bareQ, offs, num, qi, setN])
        obtain ⟨_, d1, _, _, _, d5, _, _, _, _, _, _, _, _, _, _, _, _, _, e1, _, _, _, e5, _, _, _, _, _, _, _, _, _, _, _, _⟩ := HD.out
        go_wp2_with (first
          | (with_reducible refine wpList_loadQ (g := w.heap.size + 1 + 1) (dst := some 58) (q := ⟨1, 4, 0, 0, 0, s0, 0, 0, 0, 0, 0, 0, 0, 0, 0, 0, 0, 0⟩) ?_ ?_ ?_); rfl; exact (putN (putN HC.out 1 (by decide) _) 5 (by decide) _)
          | (with_reducible refine wpList_storeQ (g := w.heap.size + 1) (x := .tmp 2) (y := .tmp 58) (q := ⟨1, 4, 0, 0, 0, s0, 0, 0, 0, 0, 0, 0, 0, 0, 0, 0, 0, 0⟩) (old := #[.int .i64 0, .int .i64 0, .int .i64 0, .int .i64 0, .int .i64 0, .int .i64 0, .int .i64 0, .int .i64 0, .int .i64 0, .int .i64 0, .int .i64 0, .int .i64 0, .int .i64 0, .int .i64 0, .int .i64 0, .int .i64 0, .int .i64 0, .int .i64 0]) ?_ ?_ ?_ ?_ ?_); rfl; rfl; (iterate 2 (refine Bk.far ?_ (by simp) _)); exact HA.out; rfl; intro w6 hb6 hf6; have HA6 := Lib.hid hb6; have HF6 := Lib.hid (Fr.then (S := Nil) (a := w) (by (iterate 2 (refine Fr.setCell ?_ (fun h => by simp at h; omega) _)); exact GF.out) hf6 (fun k hk hlt => by omega)); clear hb6 hf6)
        exact bodyPost_ret (v := .agg (qc ⟨1, 4, 0, 0, 0, s0, 0, 0, 0, 0, 0, 0, 0, 0, 0, 0, 0, 0⟩)) (res_run rfl rfl Try.req_str HA6.out rfl) rfl ⟨by rw [← HQ.out]; rfl, HF6.out⟩
    · cases hk1'
set_option maxRecDepth 100000 in
set_option maxHeartbeats 16000000 in
theorem refonly_2 (r : Rq) (hg : GoodQ r) (hk1 : r.k = 2) : Calls Try.prog 39 #[.agg (qc r)] w fun e w' => e = .returned (.agg (qc (onlyQ r))) ∧ Fr Nil w w' := by
  have HOn := Lib.hid (only_good hg)
  have HB := Lib.hid (((Bk.new w 40 (qc r)).alloc (.cells #[.int .i64 0, .int .i64 0, .int .i64 0, .int .i64 0, .int .i64 0, .int .i64 0, .int .i64 0, .int .i64 0, .int .i64 0, .int .i64 0, .int .i64 0, .int .i64 0, .int .i64 0, .int .i64 0, .int .i64 0, .int .i64 0, .int .i64 0, .int .i64 0] 40)).alloc (.cells #[.int .i64 0, .int .i64 0, .int .i64 0, .int .i64 0, .int .i64 0, .int .i64 0, .int .i64 0, .int .i64 0, .int .i64 0, .int .i64 0, .int .i64 0, .int .i64 0, .int .i64 0, .int .i64 0, .int .i64 0, .int .i64 0, .int .i64 0, .int .i64 0] 40))
  have HA := Lib.hid ((new' (g := w.heap.size + 1) (w := w.alloc (.cells (qc r) 40)) (t := 40) (cs := #[.int .i64 0, .int .i64 0, .int .i64 0, .int .i64 0, .int .i64 0, .int .i64 0, .int .i64 0, .int .i64 0, .int .i64 0, .int .i64 0, .int .i64 0, .int .i64 0, .int .i64 0, .int .i64 0, .int .i64 0, .int .i64 0, .int .i64 0, .int .i64 0]) (by simp)).alloc (.cells #[.int .i64 0, .int .i64 0, .int .i64 0, .int .i64 0, .int .i64 0, .int .i64 0, .int .i64 0, .int .i64 0, .int .i64 0, .int .i64 0, .int .i64 0, .int .i64 0, .int .i64 0, .int .i64 0, .int .i64 0, .int .i64 0, .int .i64 0, .int .i64 0] 40))
  have HC := Lib.hid (new' (g := w.heap.size + 1 + 1) (w := (w.alloc (.cells (qc r) 40)).alloc (.cells #[.int .i64 0, .int .i64 0, .int .i64 0, .int .i64 0, .int .i64 0, .int .i64 0, .int .i64 0, .int .i64 0, .int .i64 0, .int .i64 0, .int .i64 0, .int .i64 0, .int .i64 0, .int .i64 0, .int .i64 0, .int .i64 0, .int .i64 0, .int .i64 0] 40)) (t := 40) (cs := #[.int .i64 0, .int .i64 0, .int .i64 0, .int .i64 0, .int .i64 0, .int .i64 0, .int .i64 0, .int .i64 0, .int .i64 0, .int .i64 0, .int .i64 0, .int .i64 0, .int .i64 0, .int .i64 0, .int .i64 0, .int .i64 0, .int .i64 0, .int .i64 0]) (by simp))
  have G0 := Lib.hid ((((Fr.refl Nil w).alloc (.cells (qc r) 40)).alloc (.cells #[.int .i64 0, .int .i64 0, .int .i64 0, .int .i64 0, .int .i64 0, .int .i64 0, .int .i64 0, .int .i64 0, .int .i64 0, .int .i64 0, .int .i64 0, .int .i64 0, .int .i64 0, .int .i64 0, .int .i64 0, .int .i64 0, .int .i64 0, .int .i64 0] 40)).alloc (.cells #[.int .i64 0, .int .i64 0, .int .i64 0, .int .i64 0, .int .i64 0, .int .i64 0, .int .i64 0, .int .i64 0, .int .i64 0, .int .i64 0, .int .i64 0, .int .i64 0, .int .i64 0, .int .i64 0, .int .i64 0, .int .i64 0, .int .i64 0, .int .i64 0] 40))
  have hk := Lib.hid (kinds hg)
  have HK1 := Lib.hid hk1
  clear hk1
  clear hg
  obtain ⟨k, ck, p0, p1, p2, s0, s1, s2, qk, x1, x2, y1, y2, v1, v2, v3, xx, zz⟩ := r
  have CL := Lib.hid (fun w' (h : Bk w' w.heap.size 40 #[.int .i64 k, .int .i64 ck, .int .i64 p0, .int .i64 p1, .int .i64 p2, .int .i64 s0, .int .i64 s1, .int .i64 s2, .int .i64 qk, .int .i64 x1, .int .i64 x2, .int .i64 y1, .int .i64 y2, .int .i64 v1, .int .i64 v2, .int .i64 v3, .int .i64 xx, .int .i64 zz]) => (show w'.cell? ⟨w.heap.size, 2, none⟩ = some (.int .i64 p0) ∧ w'.cell? ⟨w.heap.size, 3, none⟩ = some (.int .i64 p1) ∧ w'.cell? ⟨w.heap.size, 4, none⟩ = some (.int .i64 p2) ∧ w'.cell? ⟨w.heap.size, 5, none⟩ = some (.int .i64 s0) ∧ w'.cell? ⟨w.heap.size, 6, none⟩ = some (.int .i64 s1) ∧ w'.cell? ⟨w.heap.size, 7, none⟩ = some (.int .i64 s2) ∧ w'.cell? ⟨w.heap.size, 8, none⟩ = some (.int .i64 qk) ∧ w'.cell? ⟨w.heap.size, 9, none⟩ = some (.int .i64 x1) ∧ w'.cell? ⟨w.heap.size, 10, none⟩ = some (.int .i64 x2) ∧ w'.cell? ⟨w.heap.size, 11, none⟩ = some (.int .i64 y1) ∧ w'.cell? ⟨w.heap.size, 12, none⟩ = some (.int .i64 y2) ∧ w'.cell? ⟨w.heap.size, 13, none⟩ = some (.int .i64 v1) ∧ w'.cell? ⟨w.heap.size, 14, none⟩ = some (.int .i64 v2) ∧ w'.cell? ⟨w.heap.size, 15, none⟩ = some (.int .i64 v3) ∧ w'.cell? ⟨w.heap.size, 16, none⟩ = some (.int .i64 xx) ∧ w'.cell? ⟨w.heap.size, 17, none⟩ = some (.int .i64 zz) from ⟨h.cell 2, h.cell 3, h.cell 4, h.cell 5, h.cell 6, h.cell 7, h.cell 8, h.cell 9, h.cell 10, h.cell 11, h.cell 12, h.cell 13, h.cell 14, h.cell 15, h.cell 16, h.cell 17⟩))
  unfold qc at *
  dsimp only at *
  go_enter Try.func39, Try.ntmps39
  go_upto_region 2 with (first
    | (with_reducible refine wpList_storeQ (x := .tmp 3) (y := .tmp 9) (q := ⟨k, 0, 0, 0, 0, 0, 0, 0, 0, 0, 0, 0, 0, 0, 0, 0, 0, 0⟩) ?_ ?_ HC.out ?_ ?_); rfl; rfl; rfl; intro w1 hb1 hf1; have HC1 := Lib.hid hb1; have HA1 := Lib.hid (HA.out.fr hf1 (by omega)); have HB1 := Lib.hid (HB.out.fr hf1 (by omega)); have HF1 := Lib.hid (G0.out.then hf1 (fun k hk hlt => by omega)); clear hb1 hf1 HA HB HC G0)
  (try simp only [Act.put])
  go_cut [4, 5, 6] (fun x3 x4 x5 wx => Parts w1 ⟨k, ck, p0, p1, p2, s0, s1, s2, qk, x1, x2, y1, y2, v1, v2, v3, xx, zz⟩ x3 x4 x5 wx)
  case first =>
    have hh := HB1.out.drew
    have lw := HB1.out.lt
    go_region_held_law (fun w' => w'.cell? ⟨w.heap.size, 2, none⟩ = some (.int .i64 p0) ∧ w'.cell? ⟨w.heap.size, 3, none⟩ = some (.int .i64 p1) ∧ w'.cell? ⟨w.heap.size, 4, none⟩ = some (.int .i64 p2) ∧ w'.cell? ⟨w.heap.size, 5, none⟩ = some (.int .i64 s0) ∧ w'.cell? ⟨w.heap.size, 6, none⟩ = some (.int .i64 s1) ∧ w'.cell? ⟨w.heap.size, 7, none⟩ = some (.int .i64 s2) ∧ w'.cell? ⟨w.heap.size, 8, none⟩ = some (.int .i64 qk) ∧ w'.cell? ⟨w.heap.size, 9, none⟩ = some (.int .i64 x1) ∧ w'.cell? ⟨w.heap.size, 10, none⟩ = some (.int .i64 x2) ∧ w'.cell? ⟨w.heap.size, 11, none⟩ = some (.int .i64 y1) ∧ w'.cell? ⟨w.heap.size, 12, none⟩ = some (.int .i64 y2) ∧ w'.cell? ⟨w.heap.size, 13, none⟩ = some (.int .i64 v1) ∧ w'.cell? ⟨w.heap.size, 14, none⟩ = some (.int .i64 v2) ∧ w'.cell? ⟨w.heap.size, 15, none⟩ = some (.int .i64 v3) ∧ w'.cell? ⟨w.heap.size, 16, none⟩ = some (.int .i64 xx) ∧ w'.cell? ⟨w.heap.size, 17, none⟩ = some (.int .i64 zz)) (first | exact CL.out _ (by repeat first | exact hh | apply Bk.alloc | apply Bk.drew | (refine Bk.far ?_ (by simp; omega) _) | (refine Bk.far ?_ (by omega) _))) (fail)
    all_goals
      go_wp2_with fail
      go_meet
      exact ⟨_, _, _, rfl, rfl, rfl, by repeat first | exact new' (by simp) | apply Bk.alloc | apply Bk.drew, by repeat first | exact new' (by simp) | apply Bk.alloc | apply Bk.drew, by repeat first | exact new' (by simp) | apply Bk.alloc | apply Bk.drew, by repeat first | exact Fr.refl _ _ | apply Fr.alloc | apply Fr.drew⟩
  case rest =>
    obtain ⟨a, b, c, rfl, rfl, rfl, hP, hS, hQ, hf⟩ := hcut
    have GF := Lib.hid (HF1.out.trans hf)
    have h0 := (HB1.out.fr hf id).cell 0
    have h1 := (HB1.out.fr hf id).cell 1
    have HA := Lib.hid (HA1.out.fr hf id)
    have HC := Lib.hid (HC1.out.fr hf id)
    have na : ¬ a = w.heap.size + 1 + 1 := fun h => by subst h; have h1 := hP; unfold Bk at h1; have h2 := HC.out; unfold Bk at h2; rw [h1] at h2; simp at h2
    have nb : ¬ b = w.heap.size + 1 + 1 := fun h => by subst h; have h1 := hS; unfold Bk at h1; have h2 := HC.out; unfold Bk at h2; rw [h1] at h2; simp at h2
    have nc : ¬ c = w.heap.size + 1 + 1 := fun h => by subst h; have h1 := hQ; unfold Bk at h1; have h2 := HC.out; unfold Bk at h2; rw [h1] at h2; simp at h2
    have na' : ¬ w.heap.size + 1 + 1 = a := fun h => na h.symm
    have nb' : ¬ w.heap.size + 1 + 1 = b := fun h => nb h.symm
    have nc' : ¬ w.heap.size + 1 + 1 = c := fun h => nc h.symm
    have hP0 := hP.cell 0
    have hP1 := hP.cell 1
    have hP2 := hP.cell 2
    have hS0 := hS.cell 0
    have hS1 := hS.cell 1
    have hS2 := hS.cell 2
    have hQ0 := hQ.cell 0
    have hQ1 := hQ.cell 1
    have hQ2 := hQ.cell 2
    have hQ3 := hQ.cell 3
    have hQ4 := hQ.cell 4
    have hQ5 := hQ.cell 5
    have hQ6 := hQ.cell 6
    have hQ7 := hQ.cell 7
    have hQ8 := hQ.cell 8
    have hQ9 := hQ.cell 9
    have HD := Lib.hid (c18 HC.out)
    simp only [List.getElem?_toArray, List.getElem?_cons_succ, List.getElem?_cons_zero] at *
    clear hf hP hS hQ HB1 HF1 CL HA1 HC1
    rcases hk.out with ⟨hk1, hc⟩ | ⟨hk1, hc⟩
    all_goals
      (try dsimp only at hk1 hc)
      clear hk
      have hk1' := HK1.out
      (try dsimp only at hk1')
      clear HK1
      subst hk1
    · cases hk1'
    · clear hk1'
      rcases hc with rfl | rfl | rfl | rfl | rfl | rfl | rfl
      · have HQ := Lib.hid (show onlyQ ⟨2, ck, p0, p1, p2, s0, s1, s2, 1, x1, x2, y1, y2, v1, v2, v3, xx, zz⟩ = ⟨2, 0, 0, 0, 0, 0, 0, 0, 1, x1, x2, y1, y2, 0, 0, 0, 0, 0⟩ by rw [HOn.out]; simp [copyQ, bareQ, offs, num, qi, setN])
        obtain ⟨_, _, _, _, _, _, _, _, d8, d9, d10, d11, d12, _, _, _, _, _, _, _, _, _, _, _, _, _, e8, e9, e10, e11, e12, _, _, _, _, _⟩ := HD.out
        go_wp2_with (first
          | (with_reducible refine wpList_loadQ (g := w.heap.size + 1 + 1) (dst := some 88) (q := ⟨2, 0, 0, 0, 0, 0, 0, 0, 1, x1, x2, y1, y2, 0, 0, 0, 0, 0⟩) ?_ ?_ ?_); rfl; exact (putN (putN (putN (putN (putN HC.out 8 (by decide) _) 9 (by decide) _) 10 (by decide) _) 11 (by decide) _) 12 (by decide) _)
          | (with_reducible refine wpList_storeQ (g := w.heap.size + 1) (x := .tmp 2) (y := .tmp 88) (q := ⟨2, 0, 0, 0, 0, 0, 0, 0, 1, x1, x2, y1, y2, 0, 0, 0, 0, 0⟩) (old := #[.int .i64 0, .int .i64 0, .int .i64 0, .int .i64 0, .int .i64 0, .int .i64 0, .int .i64 0, .int .i64 0, .int .i64 0, .int .i64 0, .int .i64 0, .int .i64 0, .int .i64 0, .int .i64 0, .int .i64 0, .int .i64 0, .int .i64 0, .int .i64 0]) ?_ ?_ ?_ ?_ ?_); rfl; rfl; (iterate 5 (refine Bk.far ?_ (by simp) _)); exact HA.out; rfl; intro w6 hb6 hf6; have HA6 := Lib.hid hb6; have HF6 := Lib.hid (Fr.then (S := Nil) (a := w) (by (iterate 5 (refine Fr.setCell ?_ (fun h => by simp at h; omega) _)); exact GF.out) hf6 (fun k hk hlt => by omega)); clear hb6 hf6)
        exact bodyPost_ret (v := .agg (qc ⟨2, 0, 0, 0, 0, 0, 0, 0, 1, x1, x2, y1, y2, 0, 0, 0, 0, 0⟩)) (res_run rfl rfl Try.req_str HA6.out rfl) rfl ⟨by rw [← HQ.out]; rfl, HF6.out⟩
      · have HQ := Lib.hid (show onlyQ ⟨2, ck, p0, p1, p2, s0, s1, s2, 2, x1, x2, y1, y2, v1, v2, v3, xx, zz⟩ = ⟨2, 0, 0, 0, 0, 0, 0, 0, 2, x1, x2, y1, y2, 0, 0, 0, 0, 0⟩ by rw [HOn.out]; simp [copyQ, bareQ, offs, num, qi, setN])
        obtain ⟨_, _, _, _, _, _, _, _, d8, d9, d10, d11, d12, _, _, _, _, _, _, _, _, _, _, _, _, _, e8, e9, e10, e11, e12, _, _, _, _, _⟩ := HD.out
        go_wp2_with (first
          | (with_reducible refine wpList_loadQ (g := w.heap.size + 1 + 1) (dst := some 88) (q := ⟨2, 0, 0, 0, 0, 0, 0, 0, 2, x1, x2, y1, y2, 0, 0, 0, 0, 0⟩) ?_ ?_ ?_); rfl; exact (putN (putN (putN (putN (putN HC.out 8 (by decide) _) 9 (by decide) _) 10 (by decide) _) 11 (by decide) _) 12 (by decide) _)
          | (with_reducible refine wpList_storeQ (g := w.heap.size + 1) (x := .tmp 2) (y := .tmp 88) (q := ⟨2, 0, 0, 0, 0, 0, 0, 0, 2, x1, x2, y1, y2, 0, 0, 0, 0, 0⟩) (old := #[.int .i64 0, .int .i64 0, .int .i64 0, .int .i64 0, .int .i64 0, .int .i64 0, .int .i64 0, .int .i64 0, .int .i64 0, .int .i64 0, .int .i64 0, .int .i64 0, .int .i64 0, .int .i64 0, .int .i64 0, .int .i64 0, .int .i64 0, .int .i64 0]) ?_ ?_ ?_ ?_ ?_); rfl; rfl; (iterate 5 (refine Bk.far ?_ (by simp) _)); exact HA.out; rfl; intro w6 hb6 hf6; have HA6 := Lib.hid hb6; have HF6 := Lib.hid (Fr.then (S := Nil) (a := w) (by (iterate 5 (refine Fr.setCell ?_ (fun h => by simp at h; omega) _)); exact GF.out) hf6 (fun k hk hlt => by omega)); clear hb6 hf6)
        exact bodyPost_ret (v := .agg (qc ⟨2, 0, 0, 0, 0, 0, 0, 0, 2, x1, x2, y1, y2, 0, 0, 0, 0, 0⟩)) (res_run rfl rfl Try.req_str HA6.out rfl) rfl ⟨by rw [← HQ.out]; rfl, HF6.out⟩
      · have HQ := Lib.hid (show onlyQ ⟨2, ck, p0, p1, p2, s0, s1, s2, 3, x1, x2, y1, y2, v1, v2, v3, xx, zz⟩ = ⟨2, 0, 0, 0, 0, 0, 0, 0, 3, 0, 0, 0, 0, v1, v2, v3, 0, 0⟩ by rw [HOn.out]; simp [copyQ, bareQ, offs, num, qi, setN])
        obtain ⟨_, _, _, _, _, _, _, _, d8, _, _, _, _, d13, d14, d15, _, _, _, _, _, _, _, _, _, _, e8, _, _, _, _, e13, e14, e15, _, _⟩ := HD.out
        go_wp2_with (first
          | (with_reducible refine wpList_loadQ (g := w.heap.size + 1 + 1) (dst := some 88) (q := ⟨2, 0, 0, 0, 0, 0, 0, 0, 3, 0, 0, 0, 0, v1, v2, v3, 0, 0⟩) ?_ ?_ ?_); rfl; exact (putN (putN (putN (putN HC.out 8 (by decide) _) 13 (by decide) _) 14 (by decide) _) 15 (by decide) _)
          | (with_reducible refine wpList_storeQ (g := w.heap.size + 1) (x := .tmp 2) (y := .tmp 88) (q := ⟨2, 0, 0, 0, 0, 0, 0, 0, 3, 0, 0, 0, 0, v1, v2, v3, 0, 0⟩) (old := #[.int .i64 0, .int .i64 0, .int .i64 0, .int .i64 0, .int .i64 0, .int .i64 0, .int .i64 0, .int .i64 0, .int .i64 0, .int .i64 0, .int .i64 0, .int .i64 0, .int .i64 0, .int .i64 0, .int .i64 0, .int .i64 0, .int .i64 0, .int .i64 0]) ?_ ?_ ?_ ?_ ?_); rfl; rfl; (iterate 4 (refine Bk.far ?_ (by simp) _)); exact HA.out; rfl; intro w6 hb6 hf6; have HA6 := Lib.hid hb6; have HF6 := Lib.hid (Fr.then (S := Nil) (a := w) (by (iterate 4 (refine Fr.setCell ?_ (fun h => by simp at h; omega) _)); exact GF.out) hf6 (fun k hk hlt => by omega)); clear hb6 hf6)
        exact bodyPost_ret (v := .agg (qc ⟨2, 0, 0, 0, 0, 0, 0, 0, 3, 0, 0, 0, 0, v1, v2, v3, 0, 0⟩)) (res_run rfl rfl Try.req_str HA6.out rfl) rfl ⟨by rw [← HQ.out]; rfl, HF6.out⟩
      · have HQ := Lib.hid (show onlyQ ⟨2, ck, p0, p1, p2, s0, s1, s2, 4, x1, x2, y1, y2, v1, v2, v3, xx, zz⟩ = ⟨2, 0, 0, 0, 0, 0, 0, 0, 4, 0, 0, 0, 0, v1, v2, v3, 0, 0⟩ by rw [HOn.out]; simp [copyQ, bareQ, offs, num, qi, setN])
        obtain ⟨_, _, _, _, _, _, _, _, d8, _, _, _, _, d13, d14, d15, _, _, _, _, _, _, _, _, _, _, e8, _, _, _, _, e13, e14, e15, _, _⟩ := HD.out
        go_wp2_with (first
          | (with_reducible refine wpList_loadQ (g := w.heap.size + 1 + 1) (dst := some 88) (q := ⟨2, 0, 0, 0, 0, 0, 0, 0, 4, 0, 0, 0, 0, v1, v2, v3, 0, 0⟩) ?_ ?_ ?_); rfl; exact (putN (putN (putN (putN HC.out 8 (by decide) _) 13 (by decide) _) 14 (by decide) _) 15 (by decide) _)
          | (with_reducible refine wpList_storeQ (g := w.heap.size + 1) (x := .tmp 2) (y := .tmp 88) (q := ⟨2, 0, 0, 0, 0, 0, 0, 0, 4, 0, 0, 0, 0, v1, v2, v3, 0, 0⟩) (old := #[.int .i64 0, .int .i64 0, .int .i64 0, .int .i64 0, .int .i64 0, .int .i64 0, .int .i64 0, .int .i64 0, .int .i64 0, .int .i64 0, .int .i64 0, .int .i64 0, .int .i64 0, .int .i64 0, .int .i64 0, .int .i64 0, .int .i64 0, .int .i64 0]) ?_ ?_ ?_ ?_ ?_); rfl; rfl; (iterate 4 (refine Bk.far ?_ (by simp) _)); exact HA.out; rfl; intro w6 hb6 hf6; have HA6 := Lib.hid hb6; have HF6 := Lib.hid (Fr.then (S := Nil) (a := w) (by (iterate 4 (refine Fr.setCell ?_ (fun h => by simp at h; omega) _)); exact GF.out) hf6 (fun k hk hlt => by omega)); clear hb6 hf6)
        exact bodyPost_ret (v := .agg (qc ⟨2, 0, 0, 0, 0, 0, 0, 0, 4, 0, 0, 0, 0, v1, v2, v3, 0, 0⟩)) (res_run rfl rfl Try.req_str HA6.out rfl) rfl ⟨by rw [← HQ.out]; rfl, HF6.out⟩
      · have HQ := Lib.hid (show onlyQ ⟨2, ck, p0, p1, p2, s0, s1, s2, 5, x1, x2, y1, y2, v1, v2, v3, xx, zz⟩ = ⟨2, 0, 0, 0, 0, 0, 0, 0, 5, 0, 0, 0, 0, 0, 0, 0, xx, 0⟩ by rw [HOn.out]; simp [copyQ, bareQ, offs, num, qi, setN])
        obtain ⟨_, _, _, _, _, _, _, _, d8, _, _, _, _, _, _, _, d16, _, _, _, _, _, _, _, _, _, e8, _, _, _, _, _, _, _, e16, _⟩ := HD.out
        go_wp2_with (first
          | (with_reducible refine wpList_loadQ (g := w.heap.size + 1 + 1) (dst := some 88) (q := ⟨2, 0, 0, 0, 0, 0, 0, 0, 5, 0, 0, 0, 0, 0, 0, 0, xx, 0⟩) ?_ ?_ ?_); rfl; exact (putN (putN HC.out 8 (by decide) _) 16 (by decide) _)
          | (with_reducible refine wpList_storeQ (g := w.heap.size + 1) (x := .tmp 2) (y := .tmp 88) (q := ⟨2, 0, 0, 0, 0, 0, 0, 0, 5, 0, 0, 0, 0, 0, 0, 0, xx, 0⟩) (old := #[.int .i64 0, .int .i64 0, .int .i64 0, .int .i64 0, .int .i64 0, .int .i64 0, .int .i64 0, .int .i64 0, .int .i64 0, .int .i64 0, .int .i64 0, .int .i64 0, .int .i64 0, .int .i64 0, .int .i64 0, .int .i64 0, .int .i64 0, .int .i64 0]) ?_ ?_ ?_ ?_ ?_); rfl; rfl; (iterate 2 (refine Bk.far ?_ (by simp) _)); exact HA.out; rfl; intro w6 hb6 hf6; have HA6 := Lib.hid hb6; have HF6 := Lib.hid (Fr.then (S := Nil) (a := w) (by (iterate 2 (refine Fr.setCell ?_ (fun h => by simp at h; omega) _)); exact GF.out) hf6 (fun k hk hlt => by omega)); clear hb6 hf6)
        exact bodyPost_ret (v := .agg (qc ⟨2, 0, 0, 0, 0, 0, 0, 0, 5, 0, 0, 0, 0, 0, 0, 0, xx, 0⟩)) (res_run rfl rfl Try.req_str HA6.out rfl) rfl ⟨by rw [← HQ.out]; rfl, HF6.out⟩
      · have HQ := Lib.hid (show onlyQ ⟨2, ck, p0, p1, p2, s0, s1, s2, 6, x1, x2, y1, y2, v1, v2, v3, xx, zz⟩ = ⟨2, 0, 0, 0, 0, 0, 0, 0, 6, 0, 0, 0, 0, 0, 0, 0, xx, zz⟩ by rw [HOn.out]; simp [copyQ, bareQ, offs, num, qi, setN])
        obtain ⟨_, _, _, _, _, _, _, _, d8, _, _, _, _, _, _, _, d16, d17, _, _, _, _, _, _, _, _, e8, _, _, _, _, _, _, _, e16, e17⟩ := HD.out
        go_wp2_with (first
          | (with_reducible refine wpList_loadQ (g := w.heap.size + 1 + 1) (dst := some 88) (q := ⟨2, 0, 0, 0, 0, 0, 0, 0, 6, 0, 0, 0, 0, 0, 0, 0, xx, zz⟩) ?_ ?_ ?_); rfl; exact (putN (putN (putN HC.out 8 (by decide) _) 16 (by decide) _) 17 (by decide) _)
          | (with_reducible refine wpList_storeQ (g := w.heap.size + 1) (x := .tmp 2) (y := .tmp 88) (q := ⟨2, 0, 0, 0, 0, 0, 0, 0, 6, 0, 0, 0, 0, 0, 0, 0, xx, zz⟩) (old := #[.int .i64 0, .int .i64 0, .int .i64 0, .int .i64 0, .int .i64 0, .int .i64 0, .int .i64 0, .int .i64 0, .int .i64 0, .int .i64 0, .int .i64 0, .int .i64 0, .int .i64 0, .int .i64 0, .int .i64 0, .int .i64 0, .int .i64 0, .int .i64 0]) ?_ ?_ ?_ ?_ ?_); rfl; rfl; (iterate 3 (refine Bk.far ?_ (by simp) _)); exact HA.out; rfl; intro w6 hb6 hf6; have HA6 := Lib.hid hb6; have HF6 := Lib.hid (Fr.then (S := Nil) (a := w) (by (iterate 3 (refine Fr.setCell ?_ (fun h => by simp at h; omega) _)); exact GF.out) hf6 (fun k hk hlt => by omega)); clear hb6 hf6)
        exact bodyPost_ret (v := .agg (qc ⟨2, 0, 0, 0, 0, 0, 0, 0, 6, 0, 0, 0, 0, 0, 0, 0, xx, zz⟩)) (res_run rfl rfl Try.req_str HA6.out rfl) rfl ⟨by rw [← HQ.out]; rfl, HF6.out⟩
      · have HQ := Lib.hid (show onlyQ ⟨2, ck, p0, p1, p2, s0, s1, s2, 7, x1, x2, y1, y2, v1, v2, v3, xx, zz⟩ = ⟨2, 0, 0, 0, 0, 0, 0, 0, 7, 0, 0, 0, 0, 0, 0, 0, xx, zz⟩ by rw [HOn.out]; simp [copyQ, bareQ, offs, num, qi, setN])
        obtain ⟨_, _, _, _, _, _, _, _, d8, _, _, _, _, _, _, _, d16, d17, _, _, _, _, _, _, _, _, e8, _, _, _, _, _, _, _, e16, e17⟩ := HD.out
        go_wp2_with (first
          | (with_reducible refine wpList_loadQ (g := w.heap.size + 1 + 1) (dst := some 88) (q := ⟨2, 0, 0, 0, 0, 0, 0, 0, 7, 0, 0, 0, 0, 0, 0, 0, xx, zz⟩) ?_ ?_ ?_); rfl; exact (putN (putN (putN HC.out 8 (by decide) _) 16 (by decide) _) 17 (by decide) _)
          | (with_reducible refine wpList_storeQ (g := w.heap.size + 1) (x := .tmp 2) (y := .tmp 88) (q := ⟨2, 0, 0, 0, 0, 0, 0, 0, 7, 0, 0, 0, 0, 0, 0, 0, xx, zz⟩) (old := #[.int .i64 0, .int .i64 0, .int .i64 0, .int .i64 0, .int .i64 0, .int .i64 0, .int .i64 0, .int .i64 0, .int .i64 0, .int .i64 0, .int .i64 0, .int .i64 0, .int .i64 0, .int .i64 0, .int .i64 0, .int .i64 0, .int .i64 0, .int .i64 0]) ?_ ?_ ?_ ?_ ?_); rfl; rfl; (iterate 3 (refine Bk.far ?_ (by simp) _)); exact HA.out; rfl; intro w6 hb6 hf6; have HA6 := Lib.hid hb6; have HF6 := Lib.hid (Fr.then (S := Nil) (a := w) (by (iterate 3 (refine Fr.setCell ?_ (fun h => by simp at h; omega) _)); exact GF.out) hf6 (fun k hk hlt => by omega)); clear hb6 hf6)
        exact bodyPost_ret (v := .agg (qc ⟨2, 0, 0, 0, 0, 0, 0, 0, 7, 0, 0, 0, 0, 0, 0, 0, xx, zz⟩)) (res_run rfl rfl Try.req_str HA6.out rfl) rfl ⟨by rw [← HQ.out]; rfl, HF6.out⟩
theorem refonly_any (r : Rq) (hg : GoodQ r) : Calls Try.prog 39 #[.agg (qc r)] w fun e w' => e = .returned (.agg (qc (onlyQ r))) ∧ Fr Nil w w' := by
  rcases kinds hg with ⟨h, _⟩ | ⟨h, _⟩
  · exact refonly_1 w r hg h
  · exact refonly_2 w r hg h
end
end Go.Proofs.Yteceghhjpejdnaa.CodecR
