/- Chapter 8: the walks of split, Split, Least, by the plain comparison. -/
import Derived.Test.YtokgeegbeagblaaGenM
namespace Go.Proofs.Ytokgeegbeagblaa.GenO
open Go.RowKit Base SortA SortB SortC SortD SortE SortG SortI SortK PickA PickB PickC GenA GenC GenD GenF GenH GenI GenJ GenK GenL GenM Quiet
set_option linter.unusedVariables false
set_option linter.unusedSimpArgs false

/-- both are new -/
def New2 (w : World) (a c : Value) : Prop := ∀ g, a.ownBlock = some g ∨ c.ownBlock = some g → w.heap.size ≤ g
theorem pick_yes (l : List Pr) (k : Nat) (v : Value) (w : World) (hl : l.length ≤ 120) (hk : k < l.length) (hv : Sl w v l) :
    Calls Try.prog 21 #[v, .int .i64 k, .func (.func 14) #[] #[]] w fun e w' => ∃ x : Pr, e = .returned (.tuple #[.agg #[.int .i64 x.1, .int .i64 x.2], .bool true]) ∧ (isort l)[k]? = some x ∧ Fr Nil w w' :=
  (pick_ok plain 0 l k v 0 w (by omega) hk (by unfold nb; split <;> omega) (plain_slx hv) ⟨0, Nat.le_refl _, trivial⟩).mono fun e w' ⟨x, h1, h2, h3, _⟩ => ⟨x, h1, h2, h3⟩

theorem at_sl {w : World} {g o c : Nat} {l : List Pr} {j : Nat} {x : Pr} (h : Sl w (.slice (some ⟨g, o, none⟩) l.length c) l) (hx : l[j]? = some x) : w.cell? ⟨g, o + j * 2, none⟩ = some (.int .i64 x.1) ∧ w.cell? ⟨g, o + j * 2 + 1, none⟩ = some (.int .i64 x.2) := by
  rcases h with ⟨h, _⟩ | ⟨g', o', c', he, _, _, hr⟩
  · cases h
  · simp only [Value.slice.injEq, Option.some.injEq, Addr.mk.injEq] at he
    obtain ⟨⟨rfl, rfl, _⟩, _⟩ := he
    exact hr j x hx
theorem _root_.Go.Proofs.Ytokgeegbeagblaa.SortC.Sl.come2 {w : World} {v : Value} {l : List Pr} (h : Sl w v l) : Slices.Come EP w v l := by
  rcases h with h | ⟨g, o, cap, rfl, hc, ha, hr⟩
  · exact Or.inl h
  · exact Or.inr ⟨_, cap, rfl, hc, hr.flat⟩

set_option maxRecDepth 100000 in
set_option maxHeartbeats 8000000 in
theorem split_yes (l : List Pr) (k : Nat) (v : Value) (w : World) (hl : l.length ≤ 120) (hk : k < l.length) (hv : Sl w v l) :
    Calls Try.prog 24 #[v, .int .i64 k, .func (.func 14) #[] #[]] w fun e w' => ∃ (x : Pr) (a c : Value), e = .returned (.tuple #[a, .agg #[.int .i64 x.1, .int .i64 x.2], c, .bool true]) ∧ (isort l)[k]? = some x ∧
      Sl w' a (lo x.1 l ++ (mi x.1 l).take (k - (lo x.1 l).length)) ∧ Sl w' c (hi x.1 l ++ (mi x.1 l).drop (k - (lo x.1 l).length + 1)) ∧ New2 w a c ∧ Fr Nil w w' := by
  have K := Lib.hid (pick_yes l k v _ hl hk (Sl.alloc hv (.cells #[.int .i64 0, .int .i64 0] 28)))
  have KP := Lib.hid (fun p W h => parts_any l p v W (by omega) h)
  unfold lessV at KP
  have HV := Lib.hid hv
  have HB := Lib.hid (Bk.new w 28 #[.int .i64 0, .int .i64 0])
  have HL := Lib.hid hl
  obtain ⟨A, c, rfl⟩ := Sl.shape hv
  clear hv hl
  go_enter Try.func24, Try.ntmps24
  go_wp2_with fail
  refine K.out.mono ?_
  rintro e w1 ⟨x, rfl, hx, hf1⟩
  have HX := Lib.hid hx
  obtain ⟨hlo, hmi⟩ := cut_at hx rfl
  have F1 := Lib.hid (((Fr.refl Nil w).alloc (.cells #[.int .i64 0, .int .i64 0] 28)).trans hf1)
  have F1a := Lib.hid hf1
  have HBX := Bk.new w1 28 #[.int .i64 x.1, .int .i64 x.2]
  obtain ⟨x0, x1, _, _⟩ := HBX.c2
  clear hf1 hx HBX
  go_wp2_with fail
  refine (KP.out x _ (Sl.alloc (Sl.fr HV.out F1.out) _)).mono ?_
  rintro e w2 ⟨va, vb, vc, rfl, hf2, h3⟩
  have F2 := Lib.hid ((F1.out.alloc (.cells #[.int .i64 x.1, .int .i64 x.2] 28)).trans hf2)
  have HB2 := Lib.hid ((HB.out.fr F1a.out id).alloc (.cells #[.int .i64 x.1, .int .i64 x.2] 28) |>.fr hf2 id)
  have hsz1 := F1a.out.size
  have hszw : w.heap.size < w1.heap.size := by simp at hsz1; omega
  have H3 := Lib.hid h3
  obtain ⟨Aa, ca, rfl⟩ := Sl.shape h3.1.sl
  obtain ⟨Ac, cc, rfl⟩ := Sl.shape h3.2.2.1.sl
  have hm := h3.2.1.sl
  rcases hm with ⟨rfl, h0⟩ | ⟨gm, om, cm, rfl, hcm, hgm, hrm⟩
  · rw [h0] at hmi; simp at hmi
  have hjl := (List.getElem?_eq_some_iff.1 hmi).1
  obtain ⟨j, hj⟩ : ∃ j, k - (lo x.1 l).length = j := ⟨_, rfl⟩
  rw [hj] at hjl hmi
  have HLO := Lib.hid (show (lo x.1 l).length ≤ l.length from List.length_filter_le _ _)
  have HMI := Lib.hid (show (mi x.1 l).length ≤ l.length from List.length_filter_le _ _)
  have HHI := Lib.hid (show (hi x.1 l).length ≤ l.length from List.length_filter_le _ _)
  obtain ⟨LO, hLO⟩ : ∃ z, lo x.1 l = z := ⟨_, rfl⟩
  obtain ⟨MI, hMI⟩ : ∃ z, mi x.1 l = z := ⟨_, rfl⟩
  obtain ⟨HI, hHI⟩ : ∃ z, hi x.1 l = z := ⟨_, rfl⟩
  rw [hLO, hMI, hHI] at H3
  rw [hLO] at hj hlo HLO ⊢
  rw [hMI] at hjl hmi HMI hcm hrm ⊢
  rw [hHI] at HHI ⊢
  have HLOE := Lib.hid hLO
  have HMIE := Lib.hid hMI
  have HHIE := Lib.hid hHI
  have HJE := Lib.hid hj
  have hl2 := HL.out
  have lo2 := HLO.out
  have mi2 := HMI.out
  have hi2 := HHI.out
  have hkI : (k : Int) - LO.length = j := by omega
  have j0 : (0 : Int) ≤ j := Int.natCast_nonneg j
  have j1 : (j : Int) < MI.length := by omega
  have j2 : (j : Int) ≤ MI.length := by omega
  have j3 : (j : Int) ≤ cm := by omega
  have j7 : (0 : Int) ≤ (j : Int) + 1 := by omega
  have j8 : (j : Int) + 1 ≤ MI.length := by omega
  have j9 : ((j : Int) + 1).toNat = j + 1 := by omega
  have j10 : (j : Int) + 1 ≤ cm := by omega
  have j11 : (MI.length : Int) ≤ cm := by omega
  have J4 := Lib.hid (show wrap64 (j : Int) = j from PickC.wrap_small (by omega))
  have J5 := Lib.hid (show IntKind.i64.wrap (j : Int) = j from IntWalk.i64_in _ (by omega))
  have J6 := Lib.hid (show IntKind.i64.wrap ((j : Int) + 1) = (j : Int) + 1 from IntWalk.i64_in _ (by omega))
  have N1 := Lib.hid (show LO.length + (MI.take j).length ≤ 1000000 by rw [List.length_take]; omega)
  have N2 := Lib.hid (show HI.length + (MI.drop (j + 1)).length ≤ 1000000 by rw [List.length_drop]; omega)
  have HT := Lib.hid (head_sl j hcm (by omega) hgm hrm)
  have HD := Lib.hid (tail_sl (j + 1) hcm (by omega) hgm hrm)
  have HJ := Lib.hid hmi
  have HGW := Lib.hid (show w1.heap.size + 2 ≤ gm from by have := (PickA.Own.lt H3.out.2.1 gm rfl).1; simp at this; omega)
  have HSZ := Lib.hid hszw
  obtain ⟨y0, y1⟩ := hrm j x hmi
  have j4 := J4.out
  have j5 := J5.out
  have j6 := J6.out
  clear hrm hcm hgm hj hlo hmi h3 hLO hMI hHI hl2 lo2 mi2 hi2 hjl hf2 hsz1 hszw
  go_wp2_with fail
  refine wp_region_held (S := fun W' => W'.cell? ⟨gm, om + j * 2, none⟩ = some (.int .i64 x.1) ∧ W'.cell? ⟨gm, om + j * 2 + 1, none⟩ = some (.int .i64 x.2)) (by kernel_rfl) ?_
  change wpAnyH _ _ _ _ _ _ _ _ (World.drew _)
  refine wpAnyH_take (i := 0) (v := .slice Aa LO.length ca) rfl (by kernel_rfl) (by kernel_rfl) (by kernel_rfl) (fun _ _ _ h => h) (Or.inl ⟨by rfl, fun w' hw' => by obtain ⟨z0, z1⟩ := hw'; first | (go_simp; done) | (go_simp; rfl)⟩) ⟨y0, y1⟩ ?_
  (try simp only [Act.put, List.getElem_toArray, List.getElem_cons_zero, List.getElem_cons_succ, List.setIfInBounds_toArray, List.set_cons_zero, List.set_cons_succ])
  refine wpAnyH_take (i := 1) (v := .slice (some ⟨gm, om, none⟩) MI.length cm) rfl (by kernel_rfl) (by kernel_rfl) (by kernel_rfl) (fun _ _ _ h => h) (Or.inl ⟨by rfl, fun w' hw' => by obtain ⟨z0, z1⟩ := hw'; first | (go_simp; done) | (go_simp; rfl)⟩) ⟨y0, y1⟩ ?_
  (try simp only [Act.put, List.getElem_toArray, List.getElem_cons_zero, List.getElem_cons_succ, List.setIfInBounds_toArray, List.set_cons_zero, List.set_cons_succ])
  refine wpAnyH_take (i := 2) (v := .int .i64 j) rfl (by kernel_rfl) (by kernel_rfl) (by kernel_rfl) (fun _ _ _ h => h) (Or.inl ⟨by rfl, fun w' hw' => by obtain ⟨z0, z1⟩ := hw'; first | (go_simp; done) | (go_simp; rfl)⟩) ⟨y0, y1⟩ ?_
  (try simp only [Act.put, List.getElem_toArray, List.getElem_cons_zero, List.getElem_cons_succ, List.setIfInBounds_toArray, List.set_cons_zero, List.set_cons_succ])
  refine wpAnyH_take (i := 3) (v := .slice (some ⟨gm, om, none⟩) j cm) rfl (by kernel_rfl) (by kernel_rfl) (by kernel_rfl) (fun _ _ _ h => h) (Or.inl ⟨by rfl, fun w' hw' => by obtain ⟨z0, z1⟩ := hw'; first | (go_simp; done) | (go_simp; rfl)⟩) ⟨y0, y1⟩ ?_
  (try simp only [Act.put, List.getElem_toArray, List.getElem_cons_zero, List.getElem_cons_succ, List.setIfInBounds_toArray, List.set_cons_zero, List.set_cons_succ])
  refine wpAnyH_take (i := 5) (v := .slice (some ⟨gm, om, none⟩) MI.length cm) rfl (by kernel_rfl) (by kernel_rfl) (by kernel_rfl) (fun _ _ _ h => h) (Or.inl ⟨by rfl, fun w' hw' => by obtain ⟨z0, z1⟩ := hw'; first | (go_simp; done) | (go_simp; rfl)⟩) ⟨y0, y1⟩ ?_
  (try simp only [Act.put, List.getElem_toArray, List.getElem_cons_zero, List.getElem_cons_succ, List.setIfInBounds_toArray, List.set_cons_zero, List.set_cons_succ])
  refine wpAnyH_take (i := 6) (v := .int .i64 j) rfl (by kernel_rfl) (by kernel_rfl) (by kernel_rfl) (fun _ _ _ h => h) (Or.inl ⟨by rfl, fun w' hw' => by obtain ⟨z0, z1⟩ := hw'; first | (go_simp; done) | (go_simp; rfl)⟩) ⟨y0, y1⟩ ?_
  (try simp only [Act.put, List.getElem_toArray, List.getElem_cons_zero, List.getElem_cons_succ, List.setIfInBounds_toArray, List.set_cons_zero, List.set_cons_succ])
  refine wpAnyH_take (i := 7) (v := .pointer (some ⟨gm, om + j * 2, none⟩)) rfl (by kernel_rfl) (by kernel_rfl) (by kernel_rfl) (fun _ _ _ h => h) (Or.inl ⟨by rfl, fun w' hw' => by obtain ⟨z0, z1⟩ := hw'; first | (go_simp; done) | (go_simp; rfl)⟩) ⟨y0, y1⟩ ?_
  (try simp only [Act.put, List.getElem_toArray, List.getElem_cons_zero, List.getElem_cons_succ, List.setIfInBounds_toArray, List.set_cons_zero, List.set_cons_succ])
  refine wpAnyH_take (i := 8) (v := .agg #[.int .i64 x.1, .int .i64 x.2]) rfl (by kernel_rfl) (by kernel_rfl) (by kernel_rfl) (fun _ _ _ h => h) (Or.inl ⟨by rfl, fun w' hw' => by obtain ⟨z0, z1⟩ := hw'; first | (go_simp; done) | (go_simp; rfl)⟩) ⟨y0, y1⟩ ?_
  (try simp only [Act.put, List.getElem_toArray, List.getElem_cons_zero, List.getElem_cons_succ, List.setIfInBounds_toArray, List.set_cons_zero, List.set_cons_succ])
  refine wpAnyH_take (i := 9) (v := .slice Ac HI.length cc) rfl (by kernel_rfl) (by kernel_rfl) (by kernel_rfl) (fun _ _ _ h => h) (Or.inl ⟨by rfl, fun w' hw' => by obtain ⟨z0, z1⟩ := hw'; first | (go_simp; done) | (go_simp; rfl)⟩) ⟨y0, y1⟩ ?_
  (try simp only [Act.put, List.getElem_toArray, List.getElem_cons_zero, List.getElem_cons_succ, List.setIfInBounds_toArray, List.set_cons_zero, List.set_cons_succ])
  refine wpAnyH_take (i := 10) (v := .slice (some ⟨gm, om, none⟩) MI.length cm) rfl (by kernel_rfl) (by kernel_rfl) (by kernel_rfl) (fun _ _ _ h => h) (Or.inl ⟨by rfl, fun w' hw' => by obtain ⟨z0, z1⟩ := hw'; first | (go_simp; done) | (go_simp; rfl)⟩) ⟨y0, y1⟩ ?_
  (try simp only [Act.put, List.getElem_toArray, List.getElem_cons_zero, List.getElem_cons_succ, List.setIfInBounds_toArray, List.set_cons_zero, List.set_cons_succ])
  refine wpAnyH_take (i := 11) (v := .int .i64 j) rfl (by kernel_rfl) (by kernel_rfl) (by kernel_rfl) (fun _ _ _ h => h) (Or.inl ⟨by rfl, fun w' hw' => by obtain ⟨z0, z1⟩ := hw'; first | (go_simp; done) | (go_simp; rfl)⟩) ⟨y0, y1⟩ ?_
  (try simp only [Act.put, List.getElem_toArray, List.getElem_cons_zero, List.getElem_cons_succ, List.setIfInBounds_toArray, List.set_cons_zero, List.set_cons_succ])
  refine wpAnyH_take (i := 12) (v := .int .i64 ((j : Int) + 1)) rfl (by kernel_rfl) (by kernel_rfl) (by kernel_rfl) (fun _ _ _ h => h) (Or.inl ⟨by rfl, fun w' hw' => by obtain ⟨z0, z1⟩ := hw'; first | (go_simp; done) | (go_simp; rfl)⟩) ⟨y0, y1⟩ ?_
  (try simp only [Act.put, List.getElem_toArray, List.getElem_cons_zero, List.getElem_cons_succ, List.setIfInBounds_toArray, List.set_cons_zero, List.set_cons_succ])
  refine wpAnyH_take (i := 13) (v := .slice (if cm = j + 1 then some ⟨gm, om, none⟩ else some ⟨gm, om + (j + 1) * 2, none⟩) (MI.length - (j + 1)) (cm - (j + 1))) rfl (by kernel_rfl) (by kernel_rfl) (by kernel_rfl) (fun _ _ _ h => h) (Or.inl ⟨by rfl, fun w' hw' => by obtain ⟨z0, z1⟩ := hw'; first | (go_simp; done) | (go_simp; rfl)⟩) ⟨y0, y1⟩ ?_
  (try simp only [Act.put, List.getElem_toArray, List.getElem_cons_zero, List.getElem_cons_succ, List.setIfInBounds_toArray, List.set_cons_zero, List.set_cons_succ])
  clear j4 j5 j6
  have HH := Lib.hid (show Three (w1.heap.size + 2) w2.drew (.slice Aa LO.length ca) (.slice (some ⟨gm, om, none⟩) MI.length cm) (.slice Ac HI.length cc) LO MI HI from by have h := H3.out; simp only [World.size_alloc] at h; exact h.fr ((Fr.refl Nil w2).drew))
  have hm2 := F2.out.size
  have HS2 := Lib.hid (show w1.heap.size + 2 ≤ w2.heap.size from by have h := (PickA.Own.lt HH.out.2.1 gm rfl); have : gm < w2.heap.size := h.2; omega)
  clear hm2
  have F2d := Lib.hid (F2.out.drew)
  have HB2d := Lib.hid (show Bk w2.drew _ _ _ from HB2.out)
  have HTd := Lib.hid (SortB.Sl.fr HT.out ((Fr.refl Nil w2).drew))
  have HDd := Lib.hid (SortB.Sl.fr HD.out ((Fr.refl Nil w2).drew))
  have HS2d := Lib.hid (show w1.heap.size + 2 ≤ w2.drew.heap.size from HS2.out)
  clear HT HD HS2 F2 HB2
  generalize World.drew w2 = d2 at *
  obtain ⟨tl, htl⟩ : ∃ tl, Value.slice (if cm = j + 1 then some ⟨gm, om, none⟩ else some ⟨gm, om + (j + 1) * 2, none⟩) (MI.length - (j + 1)) (cm - (j + 1)) = tl := ⟨_, rfl⟩
  rw [htl] at HDd ⊢
  have HTLB := Lib.hid (show ∀ g, tl.ownBlock = some g → (Value.slice (some ⟨gm, om, none⟩) MI.length cm).ownBlock = some g from fun g hg => by rw [← htl] at hg; split at hg <;> exact hg)
  clear htl
  refine wpAnyH_all (rs := [4]) (by kernel_rfl) (by simp) (fun i hi => ?_)
  obtain rfl : i = 4 := by simpa using hi
  clear hi
  · refine wpOp_step rfl (fun K hK => ?_)
    rw [if_pos (by rfl)]
    refine Slices.wp_app (E := EP) EP_ok (.tmp 35) (.tmp 38) 22 rfl rfl (w1.heap.size + 2) _ _ LO (MI.take j) rfl HH.out.1 rfl (SortC.Sl.come2 (HTd.out)) N1.out (by have := HS2d.out; exact this) ?_
    intro v3 w3 p3 f3 b3 m3
    replace f3 : Fr (Slices.Of (.slice Aa LO.length ca)) d2 w3 := f3
    have T3 := Lib.hid (HH.out.one p3 f3 b3)
    have G3 := Lib.hid (show Fr Nil w w3 from Fr.then F2d.out f3 (fun i hi hlt => by have := (PickA.Own.lt HH.out.1 i hi).1; have := HSZ.out; omega))
    have HB3 := Lib.hid (HB2d.out.fr f3 (fun t => by have := (PickA.Own.lt HH.out.1 _ t).1; have := HSZ.out; omega))
    have hapart : ∀ g, (Value.slice (some ⟨gm, om, none⟩) MI.length cm).ownBlock = some g → ¬ Slices.Of (.slice Aa LO.length ca) g := fun g hg t => (HH.out.2.2.2.1 g t).1 hg
    have HT3 := Lib.hid (SortD.Sl.frS HTd.out f3 (fun g hg => hapart g hg))
    have HD3 := Lib.hid (SortD.Sl.frS HDd.out f3 (fun g hg => hapart g (HTLB.out g hg)))
    have HRM := T3.out.2.1.sl
    have HS3 := Lib.hid (show w1.heap.size + 2 ≤ w3.heap.size from Nat.le_trans HS2d.out f3.size)
    obtain ⟨q0, q1⟩ := at_sl HRM HJ.out
    clear f3 b3 m3 p3 HRM hapart y0 y1
    refine hK _ _ ⟨⟨q0, q1⟩, ?_⟩
    clear hK K
    (try simp only [Act.put, List.getElem_toArray, List.getElem_cons_zero, List.getElem_cons_succ, List.setIfInBounds_toArray, List.set_cons_zero, List.set_cons_succ])
    refine wpAnyH_all (rs := [14]) (by kernel_rfl) (by simp) (fun i hi => ?_)
    obtain rfl : i = 14 := by simpa using hi
    clear hi
    refine wpOp_step rfl (fun K hK => ?_)
    rw [if_pos (by rfl)]
    refine Slices.wp_app (E := EP) EP_ok (.tmp 44) (.tmp 48) 22 rfl rfl (w1.heap.size + 2) _ _ HI (MI.drop (j + 1)) rfl T3.out.2.2.1 rfl (SortC.Sl.come2 (HD3.out)) N2.out (by have := HS2d.out; have := HS3.out; omega) ?_
    intro v4 w4 p4 f4 b4 m4
    have T4 := Lib.hid (T3.out.three p4 f4 b4)
    have G4 := Lib.hid (show Fr Nil w w4 from Fr.then G3.out f4 (fun i hi hlt => by have := (PickA.Own.lt T3.out.2.2.1 i hi).1; have := HSZ.out; omega))
    have HB4 := Lib.hid (HB3.out.fr f4 (fun t => by have := (PickA.Own.lt T3.out.2.2.1 _ t).1; have := HSZ.out; omega))
    have HRM := T4.out.2.1.sl
    obtain ⟨r0, r1⟩ := at_sl HRM HJ.out
    obtain ⟨b0, b1, b2, b3⟩ := HB4.out.c2
    have hgw : ¬ w.heap.size = gm := by have := HGW.out; have := HSZ.out; omega
    have hgw2 : ¬ gm = w.heap.size := fun e => hgw e.symm
    clear f4 b4 m4 p4 HRM q0 q1
    refine hK _ _ ⟨⟨r0, r1⟩, ?_⟩
    clear hK K
    (try simp only [Act.put, List.getElem_toArray, List.getElem_cons_zero, List.getElem_cons_succ, List.setIfInBounds_toArray, List.set_cons_zero, List.set_cons_succ])
    refine wpAnyH_take (i := 15) (v := v3) rfl (by kernel_rfl) (by kernel_rfl) (by kernel_rfl) (fun _ _ _ h => h) (Or.inl ⟨by rfl, fun w' hw' => by obtain ⟨z0, z1⟩ := hw'; first | (go_simp; done) | (go_simp; rfl)⟩) ⟨r0, r1⟩ ?_
    (try simp only [Act.put, List.getElem_toArray, List.getElem_cons_zero, List.getElem_cons_succ, List.setIfInBounds_toArray, List.set_cons_zero, List.set_cons_succ])
    refine wpAnyH_all (rs := [16]) (by kernel_rfl) (by simp) (fun i hi => ?_)
    obtain rfl : i = 16 := by simpa using hi
    clear hi
    refine wpOp_step rfl (fun K hK => ?_)
    go_simp
    refine hK _ _ ⟨⟨by go_simp, by go_simp⟩, ?_⟩
    clear hK K
    (try simp only [Act.put, List.getElem_toArray, List.getElem_cons_zero, List.getElem_cons_succ, List.setIfInBounds_toArray, List.set_cons_zero, List.set_cons_succ])
    refine wpAnyH_take (i := 17) (v := v4) rfl (by kernel_rfl) (by kernel_rfl) (by kernel_rfl) (fun _ _ _ h => h) (Or.inl ⟨by rfl, fun w' hw' => by obtain ⟨z0, z1⟩ := hw'; first | (go_simp; done) | (go_simp; rfl)⟩) ⟨by go_simp, by go_simp⟩ ?_
    (try simp only [Act.put, List.getElem_toArray, List.getElem_cons_zero, List.getElem_cons_succ, List.setIfInBounds_toArray, List.set_cons_zero, List.set_cons_succ])
    refine wpAnyH_take (i := 18) (v := .bool true) rfl (by kernel_rfl) (by kernel_rfl) (by kernel_rfl) (fun _ _ _ h => h) (Or.inl ⟨by rfl, fun w' hw' => by obtain ⟨z0, z1⟩ := hw'; first | (go_simp; done) | (go_simp; rfl)⟩) ⟨by go_simp, by go_simp⟩ ?_
    (try simp only [Act.put, List.getElem_toArray, List.getElem_cons_zero, List.getElem_cons_succ, List.setIfInBounds_toArray, List.set_cons_zero, List.set_cons_succ])
    refine wpAnyH_done (by kernel_rfl) ?_ _
    have hb4 := HB4.out
    go_wp2_with fail
    have q0 := (hb4.put 0 (.int .i64 x.1)).cell 0
    have q1 := ((hb4.put 0 (.int .i64 x.1)).put 1 (.int .i64 x.2)).cell 1
    simp at q0 q1
    have FS : Fr (fun i => i = w.heap.size) w4 ((w4.setCell ⟨w.heap.size, 0, none⟩ (.int .i64 x.1)).setCell ⟨w.heap.size, 1, none⟩ (.int .i64 x.2)) := ((Fr.refl (fun i => i = w.heap.size) w4).setCell (p := ⟨w.heap.size, 0, none⟩) (fun _ => rfl) _).setCell (p := ⟨w.heap.size, 1, none⟩) (fun _ => rfl) _
    have hnew : ∀ g, w1.heap.size + 2 ≤ g → ¬ g = w.heap.size := fun g hg e => by have := HSZ.out; omega
    exact bodyPost_ret (v := .tuple #[v3, .agg #[.int .i64 x.1, .int .i64 x.2], v4, .bool true]) (by simp [results, Try.results24, go_sem, q0, q1]) rfl ⟨x, v3, v4, rfl, HX.out, by rw [HLOE.out, HMIE.out, HJE.out]; exact SortD.Sl.frS T4.out.1.sl FS (fun g hg => hnew g (PickA.Own.lt T4.out.1 g hg).1), by rw [HLOE.out, HMIE.out, HHIE.out, HJE.out]; exact SortD.Sl.frS T4.out.2.2.1.sl FS (fun g hg => hnew g (PickA.Own.lt T4.out.2.2.1 g hg).1), (fun g hg => by have h0 := HSZ.out; rcases hg with hg | hg; (have := (PickA.Own.lt T4.out.1 g hg).1; omega); (have := (PickA.Own.lt T4.out.2.2.1 g hg).1; omega)), fr_two (Fr.refl Nil w) G4.out _ _⟩

set_option maxRecDepth 100000 in
theorem split_no (w : World) (A : Option Addr) (len c : Nat) (k : Int) (hk : k < 0 ∨ (len : Int) ≤ k) :
    Calls Try.prog 24 #[.slice A len c, .int .i64 k, .func (.func 14) #[] #[]] w fun e w' => e = .returned (.tuple #[.slice none 0 0, .agg #[.int .i64 0, .int .i64 0], .slice none 0 0, .bool false]) ∧ Fr Nil w w' := by
  have K := Lib.hid (fun W => pick_no (F := 14) (first := #[]) W A len c k hk)
  unfold lessG at K
  have HB := Lib.hid (Bk.new w 28 #[.int .i64 0, .int .i64 0])
  clear hk
  go_enter Try.func24, Try.ntmps24
  go_wp2_with fail
  refine (K.out _).mono ?_
  rintro e w1 ⟨rfl, hf1⟩
  have hb := (HB.out.fr hf1 id).alloc (.cells #[.int .i64 0, .int .i64 0] 28)
  have F1 := Lib.hid ((((Fr.refl Nil w).alloc (.cells #[.int .i64 0, .int .i64 0] 28)).trans hf1).alloc (.cells #[.int .i64 0, .int .i64 0] 28))
  obtain ⟨b0, b1, b2, b3⟩ := hb.c2
  clear hf1
  go_wp2_with fail
  go_region
  all_goals go_wp2_with fail
  all_goals
    have q0 := (hb.put 0 (.int .i64 0)).cell 0
    have q1 := ((hb.put 0 (.int .i64 0)).put 1 (.int .i64 0)).cell 1
    simp at q0 q1
    exact bodyPost_ret (v := .tuple #[.slice none 0 0, .agg #[.int .i64 0, .int .i64 0], .slice none 0 0, .bool false]) (by simp [results, Try.results24, go_sem, q0, q1, b0, b1]) rfl ⟨rfl, (fr_two (Fr.refl Nil w) F1.out _ _).drew⟩

set_option maxRecDepth 100000 in
theorem Split_yes (l : List Pr) (k : Nat) (v : Value) (w : World) (hl : l.length ≤ 120) (hk : k < l.length) (hv : Sl w v l) :
    Calls Try.prog 18 #[v, .int .i64 k, .func (.func 14) #[] #[]] w fun e w' => ∃ (x : Pr) (a c : Value), e = .returned (.tuple #[a, .agg #[.int .i64 x.1, .int .i64 x.2], c, .bool true]) ∧ (isort l)[k]? = some x ∧
      Sl w' a (lo x.1 l ++ (mi x.1 l).take (k - (lo x.1 l).length)) ∧ Sl w' c (hi x.1 l ++ (mi x.1 l).drop (k - (lo x.1 l).length + 1)) ∧ New2 w a c ∧ Fr Nil w w' := by
  have K := Lib.hid (split_yes l k v _ hl hk (Sl.alloc hv (.cells #[.int .i64 0, .int .i64 0] 28)))
  have HB := Lib.hid (Bk.new w 28 #[.int .i64 0, .int .i64 0])
  obtain ⟨A, c, rfl⟩ := Sl.shape hv
  clear hv
  go_enter Try.func18, Try.ntmps18
  go_wp2_with fail
  refine K.out.mono ?_
  rintro e w1 ⟨x, va, vc, rfl, hx, ha, hc, hnew, hf1⟩
  have HNEW := Lib.hid (show New2 w va vc from fun g hg => by have := hnew g hg; simp at this; omega)
  have HNE := Lib.hid (show ∀ g, va.ownBlock = some g ∨ vc.ownBlock = some g → ¬ g = w.heap.size from fun g hg e => by have := hnew g hg; simp at this; omega)
  clear hnew
  have HX := Lib.hid hx
  have hb := HB.out.fr hf1 id
  obtain ⟨b0, b1, b2, b3⟩ := hb.c2
  have F1 := Lib.hid hf1
  have HA := Lib.hid ha
  have HC := Lib.hid hc
  clear hf1 ha hc hx
  go_wp2_with fail
  have q0 := (hb.put 0 (.int .i64 x.1)).cell 0
  have q1 := ((hb.put 0 (.int .i64 x.1)).put 1 (.int .i64 x.2)).cell 1
  simp at q0 q1
  have FS : Fr (fun i => i = w.heap.size) w1 ((w1.setCell ⟨w.heap.size, 0, none⟩ (.int .i64 x.1)).setCell ⟨w.heap.size, 1, none⟩ (.int .i64 x.2)) := ((Fr.refl (fun i => i = w.heap.size) w1).setCell (p := ⟨w.heap.size, 0, none⟩) (fun _ => rfl) _).setCell (p := ⟨w.heap.size, 1, none⟩) (fun _ => rfl) _
  exact bodyPost_ret (v := .tuple #[va, .agg #[.int .i64 x.1, .int .i64 x.2], vc, .bool true]) (by simp [results, Try.results18, go_sem, q0, q1]) rfl ⟨x, va, vc, rfl, HX.out, SortD.Sl.frS HA.out FS (fun g hg => HNE.out g (Or.inl hg)), SortD.Sl.frS HC.out FS (fun g hg => HNE.out g (Or.inr hg)), HNEW.out, fr_two ((Fr.refl Nil w).alloc _) F1.out _ _⟩

set_option maxRecDepth 100000 in
theorem Split_no (w : World) (A : Option Addr) (len c : Nat) (k : Int) (hk : k < 0 ∨ (len : Int) ≤ k) :
    Calls Try.prog 18 #[.slice A len c, .int .i64 k, .func (.func 14) #[] #[]] w fun e w' => e = .returned (.tuple #[.slice none 0 0, .agg #[.int .i64 0, .int .i64 0], .slice none 0 0, .bool false]) ∧ Fr Nil w w' := by
  have K := Lib.hid (fun W => split_no W A len c k hk)
  have HB := Lib.hid (Bk.new w 28 #[.int .i64 0, .int .i64 0])
  clear hk
  go_enter Try.func18, Try.ntmps18
  go_wp2_with fail
  refine (K.out _).mono ?_
  rintro e w1 ⟨rfl, hf1⟩
  have hb := HB.out.fr hf1 id
  obtain ⟨b0, b1, b2, b3⟩ := hb.c2
  have F1 := Lib.hid hf1
  clear hf1
  go_wp2_with fail
  have q0 := (hb.put 0 (.int .i64 0)).cell 0
  have q1 := ((hb.put 0 (.int .i64 0)).put 1 (.int .i64 0)).cell 1
  simp at q0 q1
  exact bodyPost_ret (v := .tuple #[.slice none 0 0, .agg #[.int .i64 0, .int .i64 0], .slice none 0 0, .bool false]) (by simp [results, Try.results18, go_sem, q0, q1]) rfl ⟨rfl, fr_two ((Fr.refl Nil w).alloc _) F1.out _ _⟩

/-- the least k elements, in order -/
def few_least (l : List Pr) (k : Int) : List Pr := (isort l).take k.toNat
set_option maxRecDepth 100000 in
theorem Least_any (l : List Pr) (k : Int) (v : Value) (w : World) (hl : l.length ≤ 120) (hv : Sl w v l) :
    Calls Try.prog 19 #[v, .int .i64 k, .func (.func 14) #[] #[]] w fun e w' => ∃ u, e = .returned u ∧ Fr Nil w w' ∧ Sl w' u (few_least l k) := by
  by_cases h1 : (l.length : Int) ≤ k
  · have K := Lib.hid (SortL.sort_any l v w (by omega) hv)
    unfold lessV at K
    have HE := Lib.hid (show few_least l k = isort l from List.take_of_length_le (by rw [isort_len]; omega))
    obtain ⟨A, c, rfl⟩ := Sl.shape hv
    clear hv hl
    go_enter Try.func19, Try.ntmps19
    go_wp2_with fail
    refine K.out.mono ?_
    rintro e w1 ⟨u, rfl, hf1, hs1⟩
    go_wp2_with fail
    go_ret
    exact ⟨u, rfl, hf1, by rw [HE.out]; exact hs1⟩
  · have h1' : k < l.length := by omega
    rcases Int.lt_or_le k 0 with h0 | h0
    · have HE := Lib.hid (show few_least l k = [] from by unfold few_least; rw [show k.toNat = 0 by omega]; rfl)
      obtain ⟨A, c, rfl⟩ := Sl.shape hv
      have K := Lib.hid (fun W => split_no W A l.length c k (Or.inl h0))
      have KS := Lib.hid (fun W => SortL.sort_any [] (.slice none 0 0) W (by simp) (Or.inl ⟨rfl, rfl⟩))
      unfold lessV at KS
      have e0 : isort [] = [] := rfl
      simp only [e0] at KS
      clear hv hl h1 e0
      go_enter Try.func19, Try.ntmps19
      go_wp2_with fail
      refine (K.out _).mono ?_
      rintro e w1 ⟨rfl, hf1⟩
      have F1 := Lib.hid (hf1.alloc (.cells #[.int .i64 0, .int .i64 0] 28))
      clear hf1
      go_wp2_with fail
      refine (KS.out _).mono ?_
      rintro e w2 ⟨u, rfl, hf2, hs2⟩
      go_wp2_with fail
      go_ret
      exact ⟨u, rfl, F1.out.trans hf2, by rw [HE.out]; exact hs2⟩
    · obtain ⟨j, rfl⟩ := Int.eq_ofNat_of_zero_le h0
      have hj : j < l.length := by omega
      have K := Lib.hid (split_yes l j v w hl hj hv)
      have KS := Lib.hid (fun x (hx : (isort l)[j]? = some x) u W (h : Sl W u (lo x.1 l ++ (mi x.1 l).take (j - (lo x.1 l).length))) => SortL.sort_any _ u W (by
        have h1 := congrArg List.length (least hx)
        rw [isort_len, List.length_take, isort_len] at h1
        omega) h)
      unfold lessV at KS
      have HE := Lib.hid (fun x (hx : (isort l)[j]? = some x) => least hx)
      have HF := Lib.hid (show few_least l (j : Int) = (isort l).take j from by unfold few_least; rw [show ((j : Int)).toNat = j by omega])
      obtain ⟨A, c, rfl⟩ := Sl.shape hv
      clear hv hl h1 hj
      go_enter Try.func19, Try.ntmps19
      go_wp2_with fail
      refine K.out.mono ?_
      rintro e w1 ⟨x, va, vc, rfl, hx, ha, hc, hnew, hf1⟩
      have HX := Lib.hid hx
      have HA := Lib.hid (SortD.Sl.alloc ha (.cells #[.int .i64 x.1, .int .i64 x.2] 28))
      have F1 := Lib.hid (hf1.alloc (.cells #[.int .i64 x.1, .int .i64 x.2] 28))
      clear hf1 hx ha hc hnew
      go_wp2_with fail
      refine (KS.out x HX.out _ _ HA.out).mono ?_
      rintro e w2 ⟨u, rfl, hf2, hs2⟩
      have HS := Lib.hid hs2
      clear hs2
      go_wp2_with fail
      go_ret
      exact ⟨u, rfl, F1.out.trans hf2, by rw [HF.out, ← HE.out x HX.out]; exact HS.out⟩
end Go.Proofs.Ytokgeegbeagblaa.GenO
