/- Chapter 29: the walk of the law CodecNumbers. -/
import Derived.Test.YtdfggjniemncgaaCodecG
import Derived.Deep.RegionHeldLaw
import Derived.Deep.DeepCutAuto
import Derived.Laws.BytesArg
import Derived.Test.YtdfggjniemncgaaLeaf
namespace Go.Proofs.Ytdfggjniemncgaa.CodecH
open Go.RowKit Base Big Slices VintA VintB VintC VintD CodecG Quiet
set_option linter.unusedVariables false
set_option linter.unusedSimpArgs false

theorem of_made {g : Nat} {n m : Nat} {i : Nat} (h : Of (.slice (some ⟨g, 0, none⟩) n m) i) : i = g := by
  unfold Of at h
  simp [Value.ownBlock] at h
  omega
/-- what Read tells: of bytes that begin with a number -/
theorem Read_some (w : World) (u : List Int) (v : Value) (hl : u.length ≤ 100000) (hb : Bytes u) (hv : Sl EB w v u) {z : Nat} (hn : Begins u z) :
    Calls Try.prog 14 #[v] w fun e w' => e = .returned (.tuple #[.int .i64 (unfold_ z), .int .i64 ((vint z).length : Nat)]) ∧ Fr Nil w w' :=
  (Read_any w u v hl hb hv).mono fun e w' h => by
    obtain ⟨hr, hf⟩ := h
    rcases hr with ⟨z', hz, he⟩ | ⟨hno, _⟩
    · rw [hn.unique hz]; exact ⟨he, hf⟩
    · exact absurd hn (hno z)
theorem Read_none (w : World) (u : List Int) (v : Value) (hl : u.length ≤ 100000) (hb : Bytes u) (hv : Sl EB w v u) (hn : ∀ z, ¬ Begins u z) :
    Calls Try.prog 14 #[v] w fun e w' => e = .returned (.tuple #[.int .i64 0, .int .i64 0]) ∧ Fr Nil w w' :=
  (Read_any w u v hl hb hv).mono fun e w' h => by
    obtain ⟨hr, hf⟩ := h
    rcases hr with ⟨z', hz, he⟩ | ⟨_, he⟩
    · exact absurd hz (hn z')
    · exact ⟨he, hf⟩
theorem fr_new {w0 w1 w2 : World} {v : Value} (h : Fr Nil w0 w1) (h2 : Fr (Of v) w1 w2) (hv : ∀ k, v.ownBlock = some k → w0.heap.size ≤ k) : Fr Nil w0 w2 :=
  h.then h2 fun k hk hlt => absurd (hv k hk) (by omega)

section
set_option maxRecDepth 100000 in
set_option maxHeartbeats 4000000 in
theorem numbers_small (w : World) (b0 : List Int) (n : Int) (v : Value) (hl : b0.length ≤ maxLen) (hb0 : Bytes b0) (hn0 : -9223372036854775808 ≤ n) (hn1 : n ≤ 9223372036854775807) (hv : Come EB w v b0) (hbig' : ¬ (30 : Int) < b0.length) :
    Calls Try.prog 4 #[v, .int .i64 n] w fun e w' => e = .returned (.bool true) ∧ Fr Nil w w' := by
  have hbig : ¬ (30 : Int) < b0.length := hbig'
  have hl30 : (b0.take 30).length ≤ 30 := by rw [List.length_take]; omega
  have HBy := Lib.hid (hb0.take 30)
  have hlm : (b0.length : Int) ≤ 9223372036854775807 := by unfold maxLen at hl; omega
  have HZ := Lib.hid (fold_lt hn0 hn1)
  have KI := Lib.hid (fun W v l (h : Come EB W v l) (hl : l.length ≤ 100000) => Int_any l n v W hn0 hn1 hl h)
  have KF := Lib.hid (fun W v w0 l (h : Own EB W w0 v l) (hl : l.length ≤ 100000) (hw : w0 ≤ W.heap.size) => ref_loop w0 l n v W hn0 hn1 hl h hw)
  have hN := Lib.hid (unfold_fold n)
  have hm10 := vint_len10 (fold_lt hn0 hn1)
  have hm1 := vint_len_pos (fold n)
  generalize fold n = z0 at *
  have HV := Lib.hid (show Come EB w v (b0.take 30) by rw [List.take_of_length_le (by omega)]; exact hv)
  obtain ⟨Av, cv, rfl⟩ := hv.shape
  clear hl hv
  go_enter Try.func4, Try.ntmps4
  go_upto_region 3 with fail
  generalize hv0 : Value.slice Av b0.length cv = v0 at HV ⊢
  have hsh : ∃ A c, v0 = .slice A (b0.take 30).length c := HV.out.shape
  clear hv0 hlm
  generalize List.take 30 b0 = bs at *
  clear hbig hbig'
  have hLb := Lib.hid hl30
  have HX := Lib.hid (show ∀ W (u : Value) (h : Come EB W u (bs ++ vint z0)), (convert 22 9 u).run Try.prog W = .ok (.string (strOfNums (bs ++ vint z0))) W from fun W u h => conv_any W h)
  have hse := str_dec (l := bs ++ vint z0) (m := bs ++ vint z0) (by intro x hx; rcases List.mem_append.1 hx with h | h; exact HBy.out x h; exact vint_bytes _ x h) (by intro x hx; rcases List.mem_append.1 hx with h | h; exact HBy.out x h; exact vint_bytes _ x h)
  rw [decide_eq_true rfl] at hse
  have h30 : (bs.length : Int) ≤ 30 := by omega
  have hv0s := hsh
  clear hsh
  go_upto_region 4 with (at_builtin; refine wpList_app EB_ok rfl (.tmp 16) (.tmp 17) 22 rfl rfl w.heap.size _ _ [] bs rfl (Own.made (by simp) (by simp)) rfl (HV.out.fr ((Fr.refl Nil w).alloc _)) (by have := hLb.out; simp; omega) (by simp) ?_; intro v3 w3 o1 o2 o3 o4; have HF3 := Lib.hid (show Fr Nil w w3 from ((Fr.refl Nil w).alloc (.cells #[] 5)).then o2 (fun i hi hlt => by have := of_made hi; omega)); have HO3 := Lib.hid (o1.sl EB_ok).come; clear o1 o2 o3 o4)
  refine (KI.out w3 v3 bs HO3.out (by have := hLb.out; omega)).mono ?_
  rintro e w4 ⟨u5, rfl, hf4, ho4⟩
  have HF4 := Lib.hid (HF3.out.trans hf4)
  have HU5 := Lib.hid (ho4.sl EB_ok).come
  have HV4 := Lib.hid (HV.out.fr HF4.out)
  clear hf4 ho4
  go_upto_region 4 with fail
  have HW0 := Lib.hid (HF4.out.drew)
  have KX := Lib.hid (fun W (h : Fr Nil w4 W) => HX.out W u5 (HU5.out.fr h))
  have z0' : Fr Nil w4 w4.drew := (Fr.refl Nil w4).drew
  have HO4 := Lib.hid (show Own EB (w4.drew.alloc (.cells #[] 5)) w4.heap.size (.slice (some ⟨w4.heap.size, 0, none⟩) 0 0) ([] : List Int) from Own.made (by simp) (by simp))
  have HY4 := Lib.hid (HV4.out.fr (((Fr.refl Nil w4).drew).alloc (.cells #[] 5)))
  go_region_held_law (fun w' => (convert 22 9 u5).run Try.prog w' = .ok (.string (strOfNums (bs ++ vint z0))) w') (first | exact KX.out _ (by assumption) | exact KX.out _ (z0'.alloc _))
    (first | (rw [if_pos (by rfl)]; refine wp_app EB_ok (.tmp 23) (.tmp 24) 22 rfl rfl w4.heap.size _ _ [] bs rfl HO4.out rfl HY4.out (by have := hLb.out; simp; omega) (by simp) ?_; intro v6 w6 o6' f6 b6 n6; have o6 : Own EB w6 w4.heap.size v6 bs := o6'; have F6 : Fr Nil w4 w6 := (z0'.alloc (.cells #[] 5)).then f6 (fun i hi hlt => by have := of_made hi; omega)) | (go_at_call 13; with_reducible refine (KF.out w6 v6 w4.heap.size bs o6 (by have := hLb.out; simp; omega) (by have := F6.size; omega)).mono ?_; rintro e w7 ⟨u7, rfl, hx7, ho7⟩; have F7 : Fr Nil w4 w7 := Ext.fresh F6 (fun g hg => (o6.lt g hg).1) hx7; have hcv7 := HX.out w7 u7 (ho7.sl EB_ok).come))
  have HF7 := Lib.hid (HF4.out.trans F7)
  have HV7 := Lib.hid (HV4.out.fr F7)
  clear hcv7 ho7 hx7 F7 F6 o6 o6' f6 b6 n6 z0'
  go_wp2_with fail
  refine Calls.mono (KF.out _ _ w7.heap.size [] ?_ (by simp) ?_) ?_
  · exact Own.made (by simp) (by simp)
  · simp
  rintro e w8 ⟨u8, rfl, hx8, ho8'⟩
  have ho8 : Own EB w8 w7.heap.size u8 (vint z0) := ho8'
  have F8 : Fr Nil w7 w8 := Ext.fresh ((Fr.refl Nil w7).alloc (.cells #[] 5)) (fun g hg => by simp [Value.ownBlock] at hg; omega) hx8
  have HF8 := Lib.hid (HF7.out.trans F8)
  have HV8 := Lib.hid (HV7.out.fr F8)
  have HU8 := Lib.hid (ho8.sl EB_ok).come
  obtain ⟨A8, c8, hs8⟩ := HU8.out.shape
  subst hs8
  have HM := Lib.hid hm10
  have hmm : ((vint z0).length : Int) ≤ 10 := by omega
  have KR := Lib.hid (fun W v (h : Sl EB W v (vint z0 ++ bs)) => (Read_some W (vint z0 ++ bs) v (by have := hLb.out; have := HM.out; rw [List.length_append]; omega) (by intro x hx; rcases List.mem_append.1 hx with h | h; exact vint_bytes _ x h; exact HBy.out x h) h (z := z0) ⟨HZ.out, bs, rfl⟩))
  rw [hN.out] at KR
  generalize hmg : (vint z0).length = m at *
  clear hx8 ho8' ho8 F8 KI
  have MADE := Lib.hid (fun (W : World) => (show Own EB (W.alloc (.cells #[] 5)) W.heap.size (.slice (some ⟨W.heap.size, 0, none⟩) 0 0) ([] : List Int) from Own.made (by simp) (by simp)))
  go_wp2_with (at_builtin; first
    | (refine wpList_app EB_ok rfl (.tmp 34) (.tmp 35) 22 rfl rfl w8.heap.size _ _ [] (vint z0) rfl (MADE.out w8) rfl (HU8.out.fr ((Fr.refl Nil w8).alloc _)) (by have := HM.out; simp; omega) (by simp) ?_; intro v9 w9 o9' o2 o3 o4; have o9 : Own EB w9 w8.heap.size v9 (vint z0) := o9'; have HO9 := Lib.hid o9; have HF9 := Lib.hid (show Fr Nil w8 w9 from ((Fr.refl Nil w8).alloc (.cells #[] 5)).then o2 (fun i hi hlt => by have := of_made hi; omega)); clear o9 o9' o2 o3 o4)
    | (refine wpList_app EB_ok rfl (.tmp 36) (.tmp 37) 22 rfl rfl w8.heap.size _ _ (vint z0) bs rfl HO9.out rfl (HV8.out.fr HF9.out) (by have := HM.out; have := hLb.out; omega) HF9.out.size ?_; intro v10 w10 o10 f10 o3 o4; have HO10 := Lib.hid (o10.sl EB_ok); have HF10 := Lib.hid (show Fr Nil w8 w10 from HF9.out.then f10 (fun i hi hlt => by have := (HO9.out.lt i hi).1; omega)); clear o10 f10 o3 o4))
  refine (KR.out w10 v10 HO10.out).mono ?_
  rintro e w11 ⟨rfl, hf11⟩
  have HF11 := Lib.hid (HF8.out.trans (HF10.out.trans hf11))
  have HV11 := Lib.hid (HV8.out.fr (HF10.out.trans hf11))
  have HU11 := Lib.hid (HU8.out.fr (HF10.out.trans hf11))
  clear hf11 HO9 HF9 HO10 HF10 KR
  go_wp2_with (at_builtin; (refine wpList_app EB_ok rfl (.tmp 52) (.tmp 53) 22 rfl rfl w11.heap.size _ _ [] bs rfl (MADE.out w11) rfl (HV11.out.fr ((Fr.refl Nil w11).alloc _)) (by have := hLb.out; simp; omega) (by simp) ?_; intro v12 w12 o12' o2 o3 o4; have o12 : Own EB w12 w11.heap.size v12 bs := o12'; have HO12 := Lib.hid (o12.sl EB_ok); have HF12 := Lib.hid (show Fr Nil w11 w12 from ((Fr.refl Nil w11).alloc (.cells #[] 5)).then o2 (fun i hi hlt => by have := of_made hi; omega)); clear o12 o12' o2 o3 o4))
  by_cases hbg : ∃ z, Begins bs z
  · obtain ⟨z, hz⟩ := hbg
    have KS := Lib.hid (Read_some w12 bs v12 (by have := hLb.out; omega) HBy.out HO12.out hz)
    have hur := unfold_range hz.1
    have KG := Lib.hid (fun W v w0 (h : Own EB W w0 v []) (hw : w0 ≤ W.heap.size) => ref_loop w0 [] (unfold_ z) v W hur.1 hur.2 (by simp) h hw)
    rw [fold_unfold] at KG
    obtain ⟨r, hr⟩ := hz.2
    have HTk := Lib.hid (show bs.take (vint z).length = vint z by rw [hr, List.take_left])
    have hsl : (vint z).length ≤ bs.length := by rw [hr, List.length_append]; omega
    have hs1 := vint_len_pos z
    have hse3 := str_dec (vint_bytes z) (vint_bytes z)
    rw [decide_eq_true rfl] at hse3
    have hvs : ∃ a c, v0 = .slice (some a) bs.length c ∧ bs.length ≤ c := by
      rcases HV11.out with ⟨_, h⟩ | ⟨a, c, h, hc, _⟩
      · have h0 := congrArg List.length h; rw [List.length_nil] at h0; omega
      · exact ⟨a, c, h, hc⟩
    obtain ⟨a0, c0, hva, hca⟩ := hvs
    subst hva
    have HT11 := Lib.hid (HV11.out.take EB_ok (vint z).length hsl)
    rw [HTk.out] at HT11
    have HCZ := Lib.hid (fun W u (h : Come EB W u (vint z)) => conv_any W h)
    generalize unfold_ z = k at *
    generalize vint z = vz at *
    generalize hsg : vz.length = sz at *
    have g1 : (sz : Int) ≤ bs.length := by omega
    have g2 : (sz : Int) ≤ c0 := by omega
    have g3 : ¬ (sz : Int) = 0 := by omega
    have g3' : ((sz : Int) == 0) = false := by simpa using (show ¬ sz = 0 by omega)
    have g4 : (0 : Int) ≤ sz := Int.natCast_nonneg sz
    clear hz hr hur HTk
    refine KS.out.mono ?_
    rintro e w13 ⟨rfl, hf13⟩
    have HF13 := Lib.hid (HF11.out.trans (HF12.out.trans hf13))
    have HT13 := Lib.hid (HT11.out.fr (HF12.out.trans hf13))
    clear hf13
    go_wp2_with fail
    have KX2 := Lib.hid (fun W (h : Fr Nil w13 W) => HCZ.out W (.slice (some a0) sz c0) (HT13.out.fr h))
    have y0 : Fr Nil w13 w13.drew := (Fr.refl Nil w13).drew
    have HO13 := Lib.hid (show Own EB (w13.alloc (.cells #[] 5)).drew w13.heap.size (.slice (some ⟨w13.heap.size, 0, none⟩) 0 0) ([] : List Int) from Own.made (by simp) (by simp))
    have y1 : Fr Nil w13 (w13.alloc (.cells #[] 5)).drew := ((Fr.refl Nil w13).alloc _).drew
    go_region_held_law (fun w' => (convert 22 9 (.slice (some a0) sz c0)).run Try.prog w' = .ok (.string (strOfNums vz)) w') (exact KX2.out _ (by assumption))
      (first | (go_at_call 13; with_reducible refine (KG.out _ _ w13.heap.size HO13.out y1.size).mono ?_; rintro e w14 ⟨u14, rfl, hx14, ho14⟩; have F14 : Fr Nil w13 w14 := Ext.fresh y1 (fun g hg => (HO13.out.lt g hg).1) hx14; have hcv14 := HCZ.out w14 u14 (Sl.come (Own.sl EB_ok ho14))) | (go_at_call 10; with_reducible refine (lives_true _).mono ?_; rintro e w15 ⟨rfl, hf15⟩; have F15 : Fr Nil w13 w15 := F14.trans hf15))
    go_wp2_with fail
    go_ret
    exact ⟨rfl, HF13.out.trans F15⟩
  · have hno : ∀ z, ¬ Begins bs z := fun z hz => hbg ⟨z, hz⟩
    have KS := Lib.hid (Read_none w12 bs v12 (by have := hLb.out; omega) HBy.out HO12.out hno)
    have HNo := Lib.hid (show bs.take (vint z0).length ≠ vint z0 from fun h => hno z0 ⟨HZ.out, bs.drop (vint z0).length, by rw [← h, List.length_take]; by_cases hh : (vint z0).length ≤ bs.length; rw [Nat.min_eq_left hh, List.take_append_drop]; exact absurd (congrArg List.length h) (by rw [List.length_take]; omega)⟩)
    clear hno hbg
    refine KS.out.mono ?_
    rintro e w13 ⟨rfl, hf13⟩
    have HF13 := Lib.hid (HF11.out.trans (HF12.out.trans hf13))
    have HV13 := Lib.hid (HV11.out.fr (HF12.out.trans hf13))
    have HU13 := Lib.hid (HU11.out.fr (HF12.out.trans hf13))
    have KL := Lib.hid (fun W => lives_true W)
    clear hf13
    by_cases hlt : bs.length < m
    · have g1 : (bs.length : Int) < m := by omega
      obtain ⟨Av0, cv0, hva⟩ := HV13.out.shape
      subst hva
      go_wp2_with fail
      refine wp_region_quiet_fr Nil (by kernel_rfl) (by kernel_rfl) ?_
      repeat (go_big_quiet_step (first | (go_at_call 10; with_reducible exact quiet_call (KL.out _))))
      refine wpQuiet_nil ?_
      intro w14 hw'
      obtain ⟨⟨wq, hfq⟩, hw''⟩ := hw'
      subst hw''
      go_wp2_with fail
      go_ret
      exact ⟨rfl, HF13.out.trans hfq⟩
    · have hvs : ∃ a c, v0 = .slice (some a) bs.length c ∧ bs.length ≤ c := by
        rcases HV13.out with ⟨_, h⟩ | ⟨a, c, h, hc, _⟩
        · have h0 := congrArg List.length h; rw [List.length_nil] at h0; omega
        · exact ⟨a, c, h, hc⟩
      obtain ⟨a0, c0, hva, hca⟩ := hvs
      subst hva
      have g1 : ¬ (bs.length : Int) < m := by omega
      have g2 : (m : Int) ≤ bs.length := by omega
      have g3 : (m : Int) ≤ c0 := by omega
      have g4 : (0 : Int) ≤ m := Int.natCast_nonneg m
      have HT13 := Lib.hid (HV13.out.take EB_ok m (by omega))
      have hq1 : ∀ p : FrW Nil w13, (convert 22 9 (.slice (some a0) m c0)).run Try.prog p.val = .ok (.string (strOfNums (bs.take m))) p.val := fun p => conv_any _ (HT13.out.fr p.fr)
      have hq2 : ∀ p : FrW Nil w13, (convert 22 9 (.slice A8 m c8)).run Try.prog p.val = .ok (.string (strOfNums (vint z0))) p.val := fun p => conv_any _ (HU13.out.fr p.fr)
      have hse4 := str_dec (HBy.out.take m) (vint_bytes z0)
      rw [decide_eq_false (by rw [← hmg]; exact HNo.out)] at hse4
      go_wp2_with fail
      refine wp_region_quiet_fr Nil (by kernel_rfl) (by kernel_rfl) ?_
      repeat (go_big_quiet_step (first | (go_at_call 10; with_reducible exact quiet_call (KL.out _))))
      refine wpQuiet_nil ?_
      intro w14 hw'
      obtain ⟨⟨wq, hfq⟩, hw''⟩ := hw'
      subst hw''
      go_wp2_with fail
      go_ret
      exact ⟨rfl, HF13.out.trans hfq⟩
set_option maxRecDepth 100000 in
set_option maxHeartbeats 4000000 in
theorem numbers_big (w : World) (b0 : List Int) (n : Int) (v : Value) (hl : b0.length ≤ maxLen) (hb0 : Bytes b0) (hn0 : -9223372036854775808 ≤ n) (hn1 : n ≤ 9223372036854775807) (hv : Come EB w v b0) (hbig' : (30 : Int) < b0.length) :
    Calls Try.prog 4 #[v, .int .i64 n] w fun e w' => e = .returned (.bool true) ∧ Fr Nil w w' := by
  have hbig : (30 : Int) < b0.length := hbig'
  have hl30 : (b0.take 30).length ≤ 30 := by rw [List.length_take]; omega
  have HBy := Lib.hid (hb0.take 30)
  have hlm : (b0.length : Int) ≤ 9223372036854775807 := by unfold maxLen at hl; omega
  have HZ := Lib.hid (fold_lt hn0 hn1)
  have KI := Lib.hid (fun W v l (h : Come EB W v l) (hl : l.length ≤ 100000) => Int_any l n v W hn0 hn1 hl h)
  have KF := Lib.hid (fun W v w0 l (h : Own EB W w0 v l) (hl : l.length ≤ 100000) (hw : w0 ≤ W.heap.size) => ref_loop w0 l n v W hn0 hn1 hl h hw)
  have hN := Lib.hid (unfold_fold n)
  have hm10 := vint_len10 (fold_lt hn0 hn1)
  have hm1 := vint_len_pos (fold n)
  generalize fold n = z0 at *
  have hvs : ∃ a c, v = .slice (some a) b0.length c := by
    rcases hv with ⟨_, rfl⟩ | ⟨a, c, rfl, _⟩
    · simp at hbig
    · exact ⟨a, c, rfl⟩
  obtain ⟨Av, cv, rfl⟩ := hvs
  have HV := Lib.hid (hv.take EB_ok 30 (by omega))
  have h30c : (30 : Int) ≤ cv := by
    rcases hv with ⟨h, _⟩ | ⟨a, c, h, hc, _⟩
    · cases h
    · cases h; omega
  have hsl := hv.shape
  clear hl hv hsl
  go_enter Try.func4, Try.ntmps4
  go_upto_region 3 with fail
  generalize hv0 : Value.slice (some Av) 30 cv = v0 at HV ⊢
  have hsh : ∃ A c, v0 = .slice A (b0.take 30).length c := HV.out.shape
  clear hv0 hlm
  generalize List.take 30 b0 = bs at *
  clear hbig hbig'
  have hLb := Lib.hid hl30
  have HX := Lib.hid (show ∀ W (u : Value) (h : Come EB W u (bs ++ vint z0)), (convert 22 9 u).run Try.prog W = .ok (.string (strOfNums (bs ++ vint z0))) W from fun W u h => conv_any W h)
  have hse := str_dec (l := bs ++ vint z0) (m := bs ++ vint z0) (by intro x hx; rcases List.mem_append.1 hx with h | h; exact HBy.out x h; exact vint_bytes _ x h) (by intro x hx; rcases List.mem_append.1 hx with h | h; exact HBy.out x h; exact vint_bytes _ x h)
  rw [decide_eq_true rfl] at hse
  have h30 : (bs.length : Int) ≤ 30 := by omega
  have hv0s := hsh
  clear hsh
  go_upto_region 4 with (at_builtin; refine wpList_app EB_ok rfl (.tmp 16) (.tmp 17) 22 rfl rfl w.heap.size _ _ [] bs rfl (Own.made (by simp) (by simp)) rfl (HV.out.fr ((Fr.refl Nil w).alloc _)) (by have := hLb.out; simp; omega) (by simp) ?_; intro v3 w3 o1 o2 o3 o4; have HF3 := Lib.hid (show Fr Nil w w3 from ((Fr.refl Nil w).alloc (.cells #[] 5)).then o2 (fun i hi hlt => by have := of_made hi; omega)); have HO3 := Lib.hid (o1.sl EB_ok).come; clear o1 o2 o3 o4)
  refine (KI.out w3 v3 bs HO3.out (by have := hLb.out; omega)).mono ?_
  rintro e w4 ⟨u5, rfl, hf4, ho4⟩
  have HF4 := Lib.hid (HF3.out.trans hf4)
  have HU5 := Lib.hid (ho4.sl EB_ok).come
  have HV4 := Lib.hid (HV.out.fr HF4.out)
  clear hf4 ho4
  go_upto_region 4 with fail
  have HW0 := Lib.hid (HF4.out.drew)
  have KX := Lib.hid (fun W (h : Fr Nil w4 W) => HX.out W u5 (HU5.out.fr h))
  have z0' : Fr Nil w4 w4.drew := (Fr.refl Nil w4).drew
  have HO4 := Lib.hid (show Own EB (w4.drew.alloc (.cells #[] 5)) w4.heap.size (.slice (some ⟨w4.heap.size, 0, none⟩) 0 0) ([] : List Int) from Own.made (by simp) (by simp))
  have HY4 := Lib.hid (HV4.out.fr (((Fr.refl Nil w4).drew).alloc (.cells #[] 5)))
  go_region_held_law (fun w' => (convert 22 9 u5).run Try.prog w' = .ok (.string (strOfNums (bs ++ vint z0))) w') (first | exact KX.out _ (by assumption) | exact KX.out _ (z0'.alloc _))
    (first | (rw [if_pos (by rfl)]; refine wp_app EB_ok (.tmp 23) (.tmp 24) 22 rfl rfl w4.heap.size _ _ [] bs rfl HO4.out rfl HY4.out (by have := hLb.out; simp; omega) (by simp) ?_; intro v6 w6 o6' f6 b6 n6; have o6 : Own EB w6 w4.heap.size v6 bs := o6'; have F6 : Fr Nil w4 w6 := (z0'.alloc (.cells #[] 5)).then f6 (fun i hi hlt => by have := of_made hi; omega)) | (go_at_call 13; with_reducible refine (KF.out w6 v6 w4.heap.size bs o6 (by have := hLb.out; simp; omega) (by have := F6.size; omega)).mono ?_; rintro e w7 ⟨u7, rfl, hx7, ho7⟩; have F7 : Fr Nil w4 w7 := Ext.fresh F6 (fun g hg => (o6.lt g hg).1) hx7; have hcv7 := HX.out w7 u7 (ho7.sl EB_ok).come))
  have HF7 := Lib.hid (HF4.out.trans F7)
  have HV7 := Lib.hid (HV4.out.fr F7)
  clear hcv7 ho7 hx7 F7 F6 o6 o6' f6 b6 n6 z0'
  go_wp2_with fail
  refine Calls.mono (KF.out _ _ w7.heap.size [] ?_ (by simp) ?_) ?_
  · exact Own.made (by simp) (by simp)
  · simp
  rintro e w8 ⟨u8, rfl, hx8, ho8'⟩
  have ho8 : Own EB w8 w7.heap.size u8 (vint z0) := ho8'
  have F8 : Fr Nil w7 w8 := Ext.fresh ((Fr.refl Nil w7).alloc (.cells #[] 5)) (fun g hg => by simp [Value.ownBlock] at hg; omega) hx8
  have HF8 := Lib.hid (HF7.out.trans F8)
  have HV8 := Lib.hid (HV7.out.fr F8)
  have HU8 := Lib.hid (ho8.sl EB_ok).come
  obtain ⟨A8, c8, hs8⟩ := HU8.out.shape
  subst hs8
  have HM := Lib.hid hm10
  have hmm : ((vint z0).length : Int) ≤ 10 := by omega
  have KR := Lib.hid (fun W v (h : Sl EB W v (vint z0 ++ bs)) => (Read_some W (vint z0 ++ bs) v (by have := hLb.out; have := HM.out; rw [List.length_append]; omega) (by intro x hx; rcases List.mem_append.1 hx with h | h; exact vint_bytes _ x h; exact HBy.out x h) h (z := z0) ⟨HZ.out, bs, rfl⟩))
  rw [hN.out] at KR
  generalize hmg : (vint z0).length = m at *
  clear hx8 ho8' ho8 F8 KI
  have MADE := Lib.hid (fun (W : World) => (show Own EB (W.alloc (.cells #[] 5)) W.heap.size (.slice (some ⟨W.heap.size, 0, none⟩) 0 0) ([] : List Int) from Own.made (by simp) (by simp)))
  go_wp2_with (at_builtin; first
    | (refine wpList_app EB_ok rfl (.tmp 34) (.tmp 35) 22 rfl rfl w8.heap.size _ _ [] (vint z0) rfl (MADE.out w8) rfl (HU8.out.fr ((Fr.refl Nil w8).alloc _)) (by have := HM.out; simp; omega) (by simp) ?_; intro v9 w9 o9' o2 o3 o4; have o9 : Own EB w9 w8.heap.size v9 (vint z0) := o9'; have HO9 := Lib.hid o9; have HF9 := Lib.hid (show Fr Nil w8 w9 from ((Fr.refl Nil w8).alloc (.cells #[] 5)).then o2 (fun i hi hlt => by have := of_made hi; omega)); clear o9 o9' o2 o3 o4)
    | (refine wpList_app EB_ok rfl (.tmp 36) (.tmp 37) 22 rfl rfl w8.heap.size _ _ (vint z0) bs rfl HO9.out rfl (HV8.out.fr HF9.out) (by have := HM.out; have := hLb.out; omega) HF9.out.size ?_; intro v10 w10 o10 f10 o3 o4; have HO10 := Lib.hid (o10.sl EB_ok); have HF10 := Lib.hid (show Fr Nil w8 w10 from HF9.out.then f10 (fun i hi hlt => by have := (HO9.out.lt i hi).1; omega)); clear o10 f10 o3 o4))
  refine (KR.out w10 v10 HO10.out).mono ?_
  rintro e w11 ⟨rfl, hf11⟩
  have HF11 := Lib.hid (HF8.out.trans (HF10.out.trans hf11))
  have HV11 := Lib.hid (HV8.out.fr (HF10.out.trans hf11))
  have HU11 := Lib.hid (HU8.out.fr (HF10.out.trans hf11))
  clear hf11 HO9 HF9 HO10 HF10 KR
  go_wp2_with (at_builtin; (refine wpList_app EB_ok rfl (.tmp 52) (.tmp 53) 22 rfl rfl w11.heap.size _ _ [] bs rfl (MADE.out w11) rfl (HV11.out.fr ((Fr.refl Nil w11).alloc _)) (by have := hLb.out; simp; omega) (by simp) ?_; intro v12 w12 o12' o2 o3 o4; have o12 : Own EB w12 w11.heap.size v12 bs := o12'; have HO12 := Lib.hid (o12.sl EB_ok); have HF12 := Lib.hid (show Fr Nil w11 w12 from ((Fr.refl Nil w11).alloc (.cells #[] 5)).then o2 (fun i hi hlt => by have := of_made hi; omega)); clear o12 o12' o2 o3 o4))
  by_cases hbg : ∃ z, Begins bs z
  · obtain ⟨z, hz⟩ := hbg
    have KS := Lib.hid (Read_some w12 bs v12 (by have := hLb.out; omega) HBy.out HO12.out hz)
    have hur := unfold_range hz.1
    have KG := Lib.hid (fun W v w0 (h : Own EB W w0 v []) (hw : w0 ≤ W.heap.size) => ref_loop w0 [] (unfold_ z) v W hur.1 hur.2 (by simp) h hw)
    rw [fold_unfold] at KG
    obtain ⟨r, hr⟩ := hz.2
    have HTk := Lib.hid (show bs.take (vint z).length = vint z by rw [hr, List.take_left])
    have hsl : (vint z).length ≤ bs.length := by rw [hr, List.length_append]; omega
    have hs1 := vint_len_pos z
    have hse3 := str_dec (vint_bytes z) (vint_bytes z)
    rw [decide_eq_true rfl] at hse3
    have hvs : ∃ a c, v0 = .slice (some a) bs.length c ∧ bs.length ≤ c := by
      rcases HV11.out with ⟨_, h⟩ | ⟨a, c, h, hc, _⟩
      · have h0 := congrArg List.length h; rw [List.length_nil] at h0; omega
      · exact ⟨a, c, h, hc⟩
    obtain ⟨a0, c0, hva, hca⟩ := hvs
    subst hva
    have HT11 := Lib.hid (HV11.out.take EB_ok (vint z).length hsl)
    rw [HTk.out] at HT11
    have HCZ := Lib.hid (fun W u (h : Come EB W u (vint z)) => conv_any W h)
    generalize unfold_ z = k at *
    generalize vint z = vz at *
    generalize hsg : vz.length = sz at *
    have g1 : (sz : Int) ≤ bs.length := by omega
    have g2 : (sz : Int) ≤ c0 := by omega
    have g3 : ¬ (sz : Int) = 0 := by omega
    have g3' : ((sz : Int) == 0) = false := by simpa using (show ¬ sz = 0 by omega)
    have g4 : (0 : Int) ≤ sz := Int.natCast_nonneg sz
    clear hz hr hur HTk
    refine KS.out.mono ?_
    rintro e w13 ⟨rfl, hf13⟩
    have HF13 := Lib.hid (HF11.out.trans (HF12.out.trans hf13))
    have HT13 := Lib.hid (HT11.out.fr (HF12.out.trans hf13))
    clear hf13
    go_wp2_with fail
    have KX2 := Lib.hid (fun W (h : Fr Nil w13 W) => HCZ.out W (.slice (some a0) sz c0) (HT13.out.fr h))
    have y0 : Fr Nil w13 w13.drew := (Fr.refl Nil w13).drew
    have HO13 := Lib.hid (show Own EB (w13.alloc (.cells #[] 5)).drew w13.heap.size (.slice (some ⟨w13.heap.size, 0, none⟩) 0 0) ([] : List Int) from Own.made (by simp) (by simp))
    have y1 : Fr Nil w13 (w13.alloc (.cells #[] 5)).drew := ((Fr.refl Nil w13).alloc _).drew
    go_region_held_law (fun w' => (convert 22 9 (.slice (some a0) sz c0)).run Try.prog w' = .ok (.string (strOfNums vz)) w') (exact KX2.out _ (by assumption))
      (first | (go_at_call 13; with_reducible refine (KG.out _ _ w13.heap.size HO13.out y1.size).mono ?_; rintro e w14 ⟨u14, rfl, hx14, ho14⟩; have F14 : Fr Nil w13 w14 := Ext.fresh y1 (fun g hg => (HO13.out.lt g hg).1) hx14; have hcv14 := HCZ.out w14 u14 (Sl.come (Own.sl EB_ok ho14))) | (go_at_call 10; with_reducible refine (lives_true _).mono ?_; rintro e w15 ⟨rfl, hf15⟩; have F15 : Fr Nil w13 w15 := F14.trans hf15))
    go_wp2_with fail
    go_ret
    exact ⟨rfl, HF13.out.trans F15⟩
  · have hno : ∀ z, ¬ Begins bs z := fun z hz => hbg ⟨z, hz⟩
    have KS := Lib.hid (Read_none w12 bs v12 (by have := hLb.out; omega) HBy.out HO12.out hno)
    have HNo := Lib.hid (show bs.take (vint z0).length ≠ vint z0 from fun h => hno z0 ⟨HZ.out, bs.drop (vint z0).length, by rw [← h, List.length_take]; by_cases hh : (vint z0).length ≤ bs.length; rw [Nat.min_eq_left hh, List.take_append_drop]; exact absurd (congrArg List.length h) (by rw [List.length_take]; omega)⟩)
    clear hno hbg
    refine KS.out.mono ?_
    rintro e w13 ⟨rfl, hf13⟩
    have HF13 := Lib.hid (HF11.out.trans (HF12.out.trans hf13))
    have HV13 := Lib.hid (HV11.out.fr (HF12.out.trans hf13))
    have HU13 := Lib.hid (HU11.out.fr (HF12.out.trans hf13))
    have KL := Lib.hid (fun W => lives_true W)
    clear hf13
    by_cases hlt : bs.length < m
    · have g1 : (bs.length : Int) < m := by omega
      obtain ⟨Av0, cv0, hva⟩ := HV13.out.shape
      subst hva
      go_wp2_with fail
      refine wp_region_quiet_fr Nil (by kernel_rfl) (by kernel_rfl) ?_
      repeat (go_big_quiet_step (first | (go_at_call 10; with_reducible exact quiet_call (KL.out _))))
      refine wpQuiet_nil ?_
      intro w14 hw'
      obtain ⟨⟨wq, hfq⟩, hw''⟩ := hw'
      subst hw''
      go_wp2_with fail
      go_ret
      exact ⟨rfl, HF13.out.trans hfq⟩
    · have hvs : ∃ a c, v0 = .slice (some a) bs.length c ∧ bs.length ≤ c := by
        rcases HV13.out with ⟨_, h⟩ | ⟨a, c, h, hc, _⟩
        · have h0 := congrArg List.length h; rw [List.length_nil] at h0; omega
        · exact ⟨a, c, h, hc⟩
      obtain ⟨a0, c0, hva, hca⟩ := hvs
      subst hva
      have g1 : ¬ (bs.length : Int) < m := by omega
      have g2 : (m : Int) ≤ bs.length := by omega
      have g3 : (m : Int) ≤ c0 := by omega
      have g4 : (0 : Int) ≤ m := Int.natCast_nonneg m
      have HT13 := Lib.hid (HV13.out.take EB_ok m (by omega))
      have hq1 : ∀ p : FrW Nil w13, (convert 22 9 (.slice (some a0) m c0)).run Try.prog p.val = .ok (.string (strOfNums (bs.take m))) p.val := fun p => conv_any _ (HT13.out.fr p.fr)
      have hq2 : ∀ p : FrW Nil w13, (convert 22 9 (.slice A8 m c8)).run Try.prog p.val = .ok (.string (strOfNums (vint z0))) p.val := fun p => conv_any _ (HU13.out.fr p.fr)
      have hse4 := str_dec (HBy.out.take m) (vint_bytes z0)
      rw [decide_eq_false (by rw [← hmg]; exact HNo.out)] at hse4
      go_wp2_with fail
      refine wp_region_quiet_fr Nil (by kernel_rfl) (by kernel_rfl) ?_
      repeat (go_big_quiet_step (first | (go_at_call 10; with_reducible exact quiet_call (KL.out _))))
      refine wpQuiet_nil ?_
      intro w14 hw'
      obtain ⟨⟨wq, hfq⟩, hw''⟩ := hw'
      subst hw''
      go_wp2_with fail
      go_ret
      exact ⟨rfl, HF13.out.trans hfq⟩
theorem numbers_any (w : World) (b0 : List Int) (n : Int) (v : Value) (hl : b0.length ≤ maxLen) (hb0 : Bytes b0) (hn0 : -9223372036854775808 ≤ n) (hn1 : n ≤ 9223372036854775807) (hv : Come EB w v b0) :
    Calls Try.prog 4 #[v, .int .i64 n] w fun e w' => e = .returned (.bool true) ∧ Fr Nil w w' := by
  by_cases h : (30 : Int) < b0.length
  · exact numbers_big w b0 n v hl hb0 hn0 hn1 hv h
  · exact numbers_small w b0 n v hl hb0 hn0 hn1 hv h

theorem c_byte : Try.prog.cellsOf 5 = 1 := by kernel_rfl
theorem open_bytes {H : Type} {enc : TypeId × Value → H} {w : World} {base : Nat} {v : Value} {d : DataW H} {p : List MemPlace} (hv : Value.okWide Try.prog w .any base 22 v) (h : DataW.Trod enc Try.prog w 0 (fun _ => true) true 22 v d p) :
    ∃ l : List Int, Come EB w v l ∧ l.length ≤ maxLen ∧ Bytes l := by
  obtain ⟨l, h1, h2, h3⟩ := open_come (ks := [.i .u8]) EB_ok 9 (by kernel_rfl) c_byte (fun vs => match vs with | [.int _ n] => n | _ => 0) (fun vs hvs => by
    obtain ⟨_, ws, rfl, ⟨n, rfl, _, _⟩, h⟩ := Leaf.Leafs.cons hvs
    obtain rfl : ws = [] := h
    rfl) hv h
  refine ⟨l, h1, h2, fun x hx => ?_⟩
  obtain ⟨vs, hvs, rfl⟩ := h3 x hx
  obtain ⟨_, ws, rfl, ⟨n, rfl, b0, b1⟩, h⟩ := Leaf.Leafs.cons hvs
  obtain rfl : ws = [] := h
  have e : IntKind.u8.min = 0 ∧ IntKind.u8.max = 255 := by decide
  show 0 ≤ n ∧ n ≤ 255
  omega
end
end Go.Proofs.Ytdfggjniemncgaa.CodecH
