/- Chapter 29: the walk of ref.Numbers. -/
import Derived.Test.YtdfggjniemncgaaCodecL
import Derived.Deep.RegionHeldLaw
import Derived.Deep.DeepCutAuto
namespace Go.Proofs.Ytdfggjniemncgaa.CodecM
open Go.RowKit Base Big Slices VintA VintB VintC VintD CodecA CodecB CodecC
set_option linter.unusedVariables false
set_option linter.unusedSimpArgs false

theorem Try.info_int : (Try.prog.info? 3).map (fun i => (i.zero, i.size, i.bytes)) = some (some (.int .i64 0), 1, 8) := by kernel_rfl
def EI : El Int := { ty := 3, sl := 55, size := 1, bytes := 8, cells := fun n => [.int .i64 n] }
theorem EI_ok : EI.Ok Try.prog := by
  obtain ⟨i0, hi, hz0, hz1, hz2⟩ := info_parts Try.info_int
  exact ⟨Try.underlying55, ⟨i0, _, hi, hz0, hz1, hz2, rfl⟩, by decide, by decide, fun _ => rfl, fun a u hu => by simp [EI] at hu; subst hu; rfl⟩
/-- three blocks that hold a request's point, span, query -/
def Parts (w : World) (r : Rq) (x3 x4 x5 : Value) (wx : World) : Prop := ∃ a b c, x3 = .pointer (some ⟨a, 0, none⟩) ∧ x4 = .pointer (some ⟨b, 0, none⟩) ∧ x5 = .pointer (some ⟨c, 0, none⟩) ∧ Bk wx a 24 #[.int .i64 r.p0, .int .i64 r.p1, .int .i64 r.p2] ∧ Bk wx b 26 #[.int .i64 r.s0, .int .i64 r.s1, .int .i64 r.s2] ∧ Bk wx c 34 #[.int .i64 r.qk, .int .i64 r.x1, .int .i64 r.x2, .int .i64 r.y1, .int .i64 r.y2, .int .i64 r.v1, .int .i64 r.v2, .int .i64 r.v3, .int .i64 r.x, .int .i64 r.h] ∧ Fr Nil w wx

section
variable (w : World)
set_option maxRecDepth 100000 in
set_option maxHeartbeats 4000000 in
theorem numbers_cut (r : Rq) (hg : GoodQ r) : Calls Try.prog 22 #[.agg (qc r)] w fun e w' => ∃ u, e = .returned u ∧ Sl EI w' u ((offs r).map (num r)) ∧ (∀ g, u.ownBlock = some g → w.heap.size ≤ g) ∧ Fr Nil w w' := by
  have HB := Lib.hid (Bk.new w 36 (qc r))
  have G0 := Lib.hid ((Fr.refl Nil w).alloc (.cells (qc r) 36))
  have hk := Lib.hid (kinds hg)
  clear hg
  obtain ⟨k, ck, p0, p1, p2, s0, s1, s2, qk, x1, x2, y1, y2, v1, v2, v3, xx, zz⟩ := r
  have CL := Lib.hid (fun w' (h : Bk w' w.heap.size 36 #[.int .i64 k, .int .i64 ck, .int .i64 p0, .int .i64 p1, .int .i64 p2, .int .i64 s0, .int .i64 s1, .int .i64 s2, .int .i64 qk, .int .i64 x1, .int .i64 x2, .int .i64 y1, .int .i64 y2, .int .i64 v1, .int .i64 v2, .int .i64 v3, .int .i64 xx, .int .i64 zz]) => (show w'.cell? ⟨w.heap.size, 2, none⟩ = some (.int .i64 p0) ∧ w'.cell? ⟨w.heap.size, 3, none⟩ = some (.int .i64 p1) ∧ w'.cell? ⟨w.heap.size, 4, none⟩ = some (.int .i64 p2) ∧ w'.cell? ⟨w.heap.size, 5, none⟩ = some (.int .i64 s0) ∧ w'.cell? ⟨w.heap.size, 6, none⟩ = some (.int .i64 s1) ∧ w'.cell? ⟨w.heap.size, 7, none⟩ = some (.int .i64 s2) ∧ w'.cell? ⟨w.heap.size, 8, none⟩ = some (.int .i64 qk) ∧ w'.cell? ⟨w.heap.size, 9, none⟩ = some (.int .i64 x1) ∧ w'.cell? ⟨w.heap.size, 10, none⟩ = some (.int .i64 x2) ∧ w'.cell? ⟨w.heap.size, 11, none⟩ = some (.int .i64 y1) ∧ w'.cell? ⟨w.heap.size, 12, none⟩ = some (.int .i64 y2) ∧ w'.cell? ⟨w.heap.size, 13, none⟩ = some (.int .i64 v1) ∧ w'.cell? ⟨w.heap.size, 14, none⟩ = some (.int .i64 v2) ∧ w'.cell? ⟨w.heap.size, 15, none⟩ = some (.int .i64 v3) ∧ w'.cell? ⟨w.heap.size, 16, none⟩ = some (.int .i64 xx) ∧ w'.cell? ⟨w.heap.size, 17, none⟩ = some (.int .i64 zz) from ⟨h.cell 2, h.cell 3, h.cell 4, h.cell 5, h.cell 6, h.cell 7, h.cell 8, h.cell 9, h.cell 10, h.cell 11, h.cell 12, h.cell 13, h.cell 14, h.cell 15, h.cell 16, h.cell 17⟩))
  unfold qc at *
  dsimp only at *
  go_enter Try.func22, Try.ntmps22
  go_upto_region 1 with fail
  go_cut [3, 4, 5] (fun x3 x4 x5 wx => Parts (w.alloc (.cells #[.int .i64 k, .int .i64 ck, .int .i64 p0, .int .i64 p1, .int .i64 p2, .int .i64 s0, .int .i64 s1, .int .i64 s2, .int .i64 qk, .int .i64 x1, .int .i64 x2, .int .i64 y1, .int .i64 y2, .int .i64 v1, .int .i64 v2, .int .i64 v3, .int .i64 xx, .int .i64 zz] 36)) ⟨k, ck, p0, p1, p2, s0, s1, s2, qk, x1, x2, y1, y2, v1, v2, v3, xx, zz⟩ x3 x4 x5 wx)
  case first =>
    have hh := HB.out.drew
    go_region_held_law (fun w' => w'.cell? ⟨w.heap.size, 2, none⟩ = some (.int .i64 p0) ∧ w'.cell? ⟨w.heap.size, 3, none⟩ = some (.int .i64 p1) ∧ w'.cell? ⟨w.heap.size, 4, none⟩ = some (.int .i64 p2) ∧ w'.cell? ⟨w.heap.size, 5, none⟩ = some (.int .i64 s0) ∧ w'.cell? ⟨w.heap.size, 6, none⟩ = some (.int .i64 s1) ∧ w'.cell? ⟨w.heap.size, 7, none⟩ = some (.int .i64 s2) ∧ w'.cell? ⟨w.heap.size, 8, none⟩ = some (.int .i64 qk) ∧ w'.cell? ⟨w.heap.size, 9, none⟩ = some (.int .i64 x1) ∧ w'.cell? ⟨w.heap.size, 10, none⟩ = some (.int .i64 x2) ∧ w'.cell? ⟨w.heap.size, 11, none⟩ = some (.int .i64 y1) ∧ w'.cell? ⟨w.heap.size, 12, none⟩ = some (.int .i64 y2) ∧ w'.cell? ⟨w.heap.size, 13, none⟩ = some (.int .i64 v1) ∧ w'.cell? ⟨w.heap.size, 14, none⟩ = some (.int .i64 v2) ∧ w'.cell? ⟨w.heap.size, 15, none⟩ = some (.int .i64 v3) ∧ w'.cell? ⟨w.heap.size, 16, none⟩ = some (.int .i64 xx) ∧ w'.cell? ⟨w.heap.size, 17, none⟩ = some (.int .i64 zz)) (first | exact CL.out _ (by repeat first | exact hh | apply Bk.alloc | apply Bk.drew | (refine Bk.far ?_ (by simp) _) | (refine Bk.far ?_ (by simp; omega) _))) (fail)
    all_goals
      go_wp2_with fail
      go_meet
      exact ⟨_, _, _, rfl, rfl, rfl, by repeat first | exact new' (by simp) | apply Bk.alloc | apply Bk.drew, by repeat first | exact new' (by simp) | apply Bk.alloc | apply Bk.drew, by repeat first | exact new' (by simp) | apply Bk.alloc | apply Bk.drew, by repeat first | exact Fr.refl _ _ | apply Fr.alloc | apply Fr.drew⟩
  case rest =>
    obtain ⟨a, b, c, rfl, rfl, rfl, hP, hS, hQ, hf⟩ := hcut
    have GF := Lib.hid (G0.out.trans hf)
    have h0 := (HB.out.fr hf id).cell 0
    have h1 := (HB.out.fr hf id).cell 1
    have lw := (HB.out.fr hf id).lt
    have la := hP.lt
    have lb := hS.lt
    have lc := hQ.lt
    have nw : ¬ w.heap.size = wc.heap.size := by omega
    have na : ¬ a = wc.heap.size := by omega
    have nb : ¬ b = wc.heap.size := by omega
    have nc : ¬ c = wc.heap.size := by omega
    have lw1 : w.heap.size < wc.heap.size + 1 := by omega
    have nw1 : ¬ w.heap.size = wc.heap.size + 1 := by omega
    have lw2 : w.heap.size < wc.heap.size + 1 + 1 := by omega
    have nw2 : ¬ w.heap.size = wc.heap.size + 1 + 1 := by omega
    have lw3 : w.heap.size < wc.heap.size + 1 + 1 + 1 := by omega
    have nw3 : ¬ w.heap.size = wc.heap.size + 1 + 1 + 1 := by omega
    have lw4 : w.heap.size < wc.heap.size + 1 + 1 + 1 + 1 := by omega
    have nw4 : ¬ w.heap.size = wc.heap.size + 1 + 1 + 1 + 1 := by omega
    have lw5 : w.heap.size < wc.heap.size + 1 + 1 + 1 + 1 + 1 := by omega
    have nw5 : ¬ w.heap.size = wc.heap.size + 1 + 1 + 1 + 1 + 1 := by omega
    have lw6 : w.heap.size < wc.heap.size + 1 + 1 + 1 + 1 + 1 + 1 := by omega
    have nw6 : ¬ w.heap.size = wc.heap.size + 1 + 1 + 1 + 1 + 1 + 1 := by omega
    have la1 : a < wc.heap.size + 1 := by omega
    have na1 : ¬ a = wc.heap.size + 1 := by omega
    have la2 : a < wc.heap.size + 1 + 1 := by omega
    have na2 : ¬ a = wc.heap.size + 1 + 1 := by omega
    have la3 : a < wc.heap.size + 1 + 1 + 1 := by omega
    have na3 : ¬ a = wc.heap.size + 1 + 1 + 1 := by omega
    have la4 : a < wc.heap.size + 1 + 1 + 1 + 1 := by omega
    have na4 : ¬ a = wc.heap.size + 1 + 1 + 1 + 1 := by omega
    have la5 : a < wc.heap.size + 1 + 1 + 1 + 1 + 1 := by omega
    have na5 : ¬ a = wc.heap.size + 1 + 1 + 1 + 1 + 1 := by omega
    have la6 : a < wc.heap.size + 1 + 1 + 1 + 1 + 1 + 1 := by omega
    have na6 : ¬ a = wc.heap.size + 1 + 1 + 1 + 1 + 1 + 1 := by omega
    have lb1 : b < wc.heap.size + 1 := by omega
    have nb1 : ¬ b = wc.heap.size + 1 := by omega
    have lb2 : b < wc.heap.size + 1 + 1 := by omega
    have nb2 : ¬ b = wc.heap.size + 1 + 1 := by omega
    have lb3 : b < wc.heap.size + 1 + 1 + 1 := by omega
    have nb3 : ¬ b = wc.heap.size + 1 + 1 + 1 := by omega
    have lb4 : b < wc.heap.size + 1 + 1 + 1 + 1 := by omega
    have nb4 : ¬ b = wc.heap.size + 1 + 1 + 1 + 1 := by omega
    have lb5 : b < wc.heap.size + 1 + 1 + 1 + 1 + 1 := by omega
    have nb5 : ¬ b = wc.heap.size + 1 + 1 + 1 + 1 + 1 := by omega
    have lb6 : b < wc.heap.size + 1 + 1 + 1 + 1 + 1 + 1 := by omega
    have nb6 : ¬ b = wc.heap.size + 1 + 1 + 1 + 1 + 1 + 1 := by omega
    have hP0 := hP.cell 0
    have hP1 := hP.cell 1
    have hP2 := hP.cell 2
    have hS0 := hS.cell 0
    have hS1 := hS.cell 1
    have hS2 := hS.cell 2
    have hQ0 := hQ.cell 0
    have hQ1 := hQ.cell 1
    have hQ2 := hQ.cell 2
    have hQ3 := hQ.cell 3
    have hQ4 := hQ.cell 4
    have hQ5 := hQ.cell 5
    have hQ6 := hQ.cell 6
    have hQ7 := hQ.cell 7
    have hQ8 := hQ.cell 8
    have hQ9 := hQ.cell 9
    simp only [List.getElem?_toArray, List.getElem?_cons_succ, List.getElem?_cons_zero] at *
    clear hf hP hS hQ HB G0 CL
    rcases hk.out with ⟨hk1, hc⟩ | ⟨hk1, hc⟩
    all_goals
      (try dsimp only at hk1 hc)
      clear hk
      subst hk1
    · rcases hc with rfl | rfl | rfl | rfl
      · have HL := Lib.hid (show (offs ⟨1, 1, p0, p1, p2, s0, s1, s2, qk, x1, x2, y1, y2, v1, v2, v3, xx, zz⟩).map (num ⟨1, 1, p0, p1, p2, s0, s1, s2, qk, x1, x2, y1, y2, v1, v2, v3, xx, zz⟩) = [p0, p1, p2] by simp [offs, num, qi])
        go_wp2_with fail
        go_ret
        exact ⟨_, rfl, by rw [HL.out]; repeat first | exact lit_sl EI_ok [p0, p1, p2] rfl (by simp) _ | refine Sl.fr ?_ ((Fr.refl Nil _).alloc _), fun g hg => by have := GF.out.size; simp [Value.ownBlock] at hg; omega, by repeat first | exact GF.out | apply Fr.alloc⟩
      · have HL := Lib.hid (show (offs ⟨1, 2, p0, p1, p2, s0, s1, s2, qk, x1, x2, y1, y2, v1, v2, v3, xx, zz⟩).map (num ⟨1, 2, p0, p1, p2, s0, s1, s2, qk, x1, x2, y1, y2, v1, v2, v3, xx, zz⟩) = [p0] by simp [offs, num, qi])
        go_wp2_with fail
        go_ret
        exact ⟨_, rfl, by rw [HL.out]; repeat first | exact lit_sl EI_ok [p0] rfl (by simp) _ | refine Sl.fr ?_ ((Fr.refl Nil _).alloc _), fun g hg => by have := GF.out.size; simp [Value.ownBlock] at hg; omega, by repeat first | exact GF.out | apply Fr.alloc⟩
      · have HL := Lib.hid (show (offs ⟨1, 3, p0, p1, p2, s0, s1, s2, qk, x1, x2, y1, y2, v1, v2, v3, xx, zz⟩).map (num ⟨1, 3, p0, p1, p2, s0, s1, s2, qk, x1, x2, y1, y2, v1, v2, v3, xx, zz⟩) = [s0, s1, s2] by simp [offs, num, qi])
        go_wp2_with fail
        go_ret
        exact ⟨_, rfl, by rw [HL.out]; repeat first | exact lit_sl EI_ok [s0, s1, s2] rfl (by simp) _ | refine Sl.fr ?_ ((Fr.refl Nil _).alloc _), fun g hg => by have := GF.out.size; simp [Value.ownBlock] at hg; omega, by repeat first | exact GF.out | apply Fr.alloc⟩
      · have HL := Lib.hid (show (offs ⟨1, 4, p0, p1, p2, s0, s1, s2, qk, x1, x2, y1, y2, v1, v2, v3, xx, zz⟩).map (num ⟨1, 4, p0, p1, p2, s0, s1, s2, qk, x1, x2, y1, y2, v1, v2, v3, xx, zz⟩) = [s0] by simp [offs, num, qi])
        go_wp2_with fail
        go_ret
        exact ⟨_, rfl, by rw [HL.out]; repeat first | exact lit_sl EI_ok [s0] rfl (by simp) _ | refine Sl.fr ?_ ((Fr.refl Nil _).alloc _), fun g hg => by have := GF.out.size; simp [Value.ownBlock] at hg; omega, by repeat first | exact GF.out | apply Fr.alloc⟩
    · rcases hc with rfl | rfl | rfl | rfl | rfl | rfl | rfl
      · have HL := Lib.hid (show (offs ⟨2, ck, p0, p1, p2, s0, s1, s2, 1, x1, x2, y1, y2, v1, v2, v3, xx, zz⟩).map (num ⟨2, ck, p0, p1, p2, s0, s1, s2, 1, x1, x2, y1, y2, v1, v2, v3, xx, zz⟩) = [x1, x2, y1, y2] by simp [offs, num, qi])
        go_wp2_with fail
        go_ret
        exact ⟨_, rfl, by rw [HL.out]; repeat first | exact lit_sl EI_ok [x1, x2, y1, y2] rfl (by simp) _ | refine Sl.fr ?_ ((Fr.refl Nil _).alloc _), fun g hg => by have := GF.out.size; simp [Value.ownBlock] at hg; omega, by repeat first | exact GF.out | apply Fr.alloc⟩
      · have HL := Lib.hid (show (offs ⟨2, ck, p0, p1, p2, s0, s1, s2, 2, x1, x2, y1, y2, v1, v2, v3, xx, zz⟩).map (num ⟨2, ck, p0, p1, p2, s0, s1, s2, 2, x1, x2, y1, y2, v1, v2, v3, xx, zz⟩) = [x1, x2, y1, y2] by simp [offs, num, qi])
        go_wp2_with fail
        go_ret
        exact ⟨_, rfl, by rw [HL.out]; repeat first | exact lit_sl EI_ok [x1, x2, y1, y2] rfl (by simp) _ | refine Sl.fr ?_ ((Fr.refl Nil _).alloc _), fun g hg => by have := GF.out.size; simp [Value.ownBlock] at hg; omega, by repeat first | exact GF.out | apply Fr.alloc⟩
      · have HL := Lib.hid (show (offs ⟨2, ck, p0, p1, p2, s0, s1, s2, 3, x1, x2, y1, y2, v1, v2, v3, xx, zz⟩).map (num ⟨2, ck, p0, p1, p2, s0, s1, s2, 3, x1, x2, y1, y2, v1, v2, v3, xx, zz⟩) = [v1, v2, v3] by simp [offs, num, qi])
        go_wp2_with fail
        go_ret
        exact ⟨_, rfl, by rw [HL.out]; repeat first | exact lit_sl EI_ok [v1, v2, v3] rfl (by simp) _ | refine Sl.fr ?_ ((Fr.refl Nil _).alloc _), fun g hg => by have := GF.out.size; simp [Value.ownBlock] at hg; omega, by repeat first | exact GF.out | apply Fr.alloc⟩
      · have HL := Lib.hid (show (offs ⟨2, ck, p0, p1, p2, s0, s1, s2, 4, x1, x2, y1, y2, v1, v2, v3, xx, zz⟩).map (num ⟨2, ck, p0, p1, p2, s0, s1, s2, 4, x1, x2, y1, y2, v1, v2, v3, xx, zz⟩) = [v1, v2, v3] by simp [offs, num, qi])
        go_wp2_with fail
        go_ret
        exact ⟨_, rfl, by rw [HL.out]; repeat first | exact lit_sl EI_ok [v1, v2, v3] rfl (by simp) _ | refine Sl.fr ?_ ((Fr.refl Nil _).alloc _), fun g hg => by have := GF.out.size; simp [Value.ownBlock] at hg; omega, by repeat first | exact GF.out | apply Fr.alloc⟩
      · have HL := Lib.hid (show (offs ⟨2, ck, p0, p1, p2, s0, s1, s2, 5, x1, x2, y1, y2, v1, v2, v3, xx, zz⟩).map (num ⟨2, ck, p0, p1, p2, s0, s1, s2, 5, x1, x2, y1, y2, v1, v2, v3, xx, zz⟩) = [xx] by simp [offs, num, qi])
        go_wp2_with fail
        go_ret
        exact ⟨_, rfl, by rw [HL.out]; repeat first | exact lit_sl EI_ok [xx] rfl (by simp) _ | refine Sl.fr ?_ ((Fr.refl Nil _).alloc _), fun g hg => by have := GF.out.size; simp [Value.ownBlock] at hg; omega, by repeat first | exact GF.out | apply Fr.alloc⟩
      · have HL := Lib.hid (show (offs ⟨2, ck, p0, p1, p2, s0, s1, s2, 6, x1, x2, y1, y2, v1, v2, v3, xx, zz⟩).map (num ⟨2, ck, p0, p1, p2, s0, s1, s2, 6, x1, x2, y1, y2, v1, v2, v3, xx, zz⟩) = [xx, zz] by simp [offs, num, qi])
        go_wp2_with fail
        go_ret
        exact ⟨_, rfl, by rw [HL.out]; repeat first | exact lit_sl EI_ok [xx, zz] rfl (by simp) _ | refine Sl.fr ?_ ((Fr.refl Nil _).alloc _), fun g hg => by have := GF.out.size; simp [Value.ownBlock] at hg; omega, by repeat first | exact GF.out | apply Fr.alloc⟩
      · have HL := Lib.hid (show (offs ⟨2, ck, p0, p1, p2, s0, s1, s2, 7, x1, x2, y1, y2, v1, v2, v3, xx, zz⟩).map (num ⟨2, ck, p0, p1, p2, s0, s1, s2, 7, x1, x2, y1, y2, v1, v2, v3, xx, zz⟩) = [xx, zz] by simp [offs, num, qi])
        go_wp2_with fail
        go_ret
        exact ⟨_, rfl, by rw [HL.out]; repeat first | exact lit_sl EI_ok [xx, zz] rfl (by simp) _ | refine Sl.fr ?_ ((Fr.refl Nil _).alloc _), fun g hg => by have := GF.out.size; simp [Value.ownBlock] at hg; omega, by repeat first | exact GF.out | apply Fr.alloc⟩
end
end Go.Proofs.Ytdfggjniemncgaa.CodecM
