/- Chapter 30: the walk of the law ReplyReads. -/
import Derived.Test.YtfkjonpbopoiaaaReplyN
import Derived.Test.YtfkjonpbopoiaaaReplyM
import Derived.Test.YtfkjonpbopoiaaaReplyF
import Derived.Deep.RegionHeld3
namespace Go.Proofs.Ytfkjonpbopoiaaa.ReplyO
open Go.RowKit Base Slices TrapA TrapB TrapG VintA VintB VintC VintD Quiet ReplyA ReplyB ReplyC ReplyD ReplyE ReplyK ReplyL ReplyM ReplyN
set_option linter.unusedVariables false
set_option linter.unusedSimpArgs false

set_option maxRecDepth 100000 in
set_option maxHeartbeats 8000000 in
theorem reads_small (w : World) (b0 : List Int) (r : Rp) (v u : Value) (hl : b0.length ≤ maxLen) (hb0 : Bytes b0) (hm : r.ids.length ≤ maxLen) (hv : Come EB w v b0) (hbig' : ¬ (300 : Int) < b0.length) (hu : Rc w u r) :
    Calls Try.prog 4 #[v, u] w fun e w' => e = .returned (.bool true) ∧ Fr Nil w w' := by
  have hbig : ¬ (300 : Int) < b0.length := hbig'
  obtain ⟨p, rfl, hp⟩ := hu
  have HB := Lib.hid (Bk.new w 27 (rc r p))
  have G0 := Lib.hid ((Fr.refl Nil w).alloc (.cells (rc r p) 27))
  have KF := Lib.hid (few_new (w.alloc (.cells (rc r p) 27)) r (rv r p) hm ⟨p, rfl, hp.fr G0.out⟩)
  have hl300 : (b0.take 300).length ≤ 300 := by rw [List.length_take]; omega
  have HBy := Lib.hid (hb0.take 300)
  have HVt := Lib.hid (fun (a : Addr) (cap : Nat) (hv' : v = .slice (some a) b0.length cap) (h : 300 ≤ b0.length) => (show Come EB w (.slice (some a) 300 cap) (b0.take 300) by rw [hv'] at hv; exact hv.take EB_ok 300 h))
  have HVs := Lib.hid (fun (h : b0.length ≤ 300) => (show Come EB w v (b0.take 300) by rw [List.take_of_length_le h]; exact hv))
  obtain ⟨A, cp, rfl⟩ := hp.shape
  clear hp hm hb0
  have hlm : (b0.length : Int) ≤ 9223372036854775807 := by unfold maxLen at hl; omega
  obtain ⟨c, a, l, n, ids⟩ := r
  have hcl := cut_len ⟨c, a, l, n, ids⟩
  have HCv := Lib.hid (show cut ⟨c, a, l, n, ids⟩ = ⟨c, a, l, n, ids.take 60⟩ from rfl)
  unfold rv rc at *
  dsimp only at *
  obtain ⟨b0', b1, b2, b3, b4, f0, f1, f2, f3, f4⟩ := HB.out.c5
  have HV := Lib.hid (HVs.out (by omega))
  obtain ⟨Av, cv, hvv⟩ := hv.shape
  have hvs : ∃ A n c, v = .slice A n c := ⟨Av, _, cv, hvv⟩
  subst hvv
  clear HVt HVs hl hv
  go_enter Try.func4, Try.ntmps4
  go_wp2_with fail
  generalize hv0 : Value.slice Av b0.length cv = v0 at HV ⊢
  clear hv0
  clear hlm
  generalize List.take 300 b0 = bs at *
  refine KF.out.mono ?_
  rintro e w1 ⟨u1, rfl, hf, hr⟩
  obtain ⟨p1, hp1, hs1, hn1⟩ := hr
  rw [HCv.out] at hs1
  dsimp only at hs1
  obtain ⟨A1, c1, rfl⟩ := hs1.shape
  rw [HCv.out] at hp1
  have hp1' : u1 = .agg #[.int .i64 c, .bool a, .bool l, .int .i64 n, .slice A1 (ids.take 60).length c1] := hp1
  subst hp1'
  have hL60 : (ids.take 60).length ≤ 60 := by rw [List.length_take]; omega
  generalize List.take 60 ids = L at *
  have HB1 := Lib.hid (HB.out.fr hf id)
  have HF1 := Lib.hid (G0.out.trans hf)
  have HS1 := Lib.hid hs1
  have HN1 := Lib.hid (show ∀ k, (Value.slice A1 L.length c1).ownBlock = some k → k ≠ w.heap.size ∧ k < w1.heap.size from fun k hk => ⟨by have := hn1 k hk; simp at this; omega, sl_lt hs1 hk⟩)
  have hsz1 := HF1.out.size
  obtain ⟨b0', b1, b2, b3, b4, f0, f1, f2, f3, f4⟩ := HB1.out.c5
  clear hf hp1 hs1 hn1
  have HBx := Lib.hid (((((HB1.out.put 0 (.int .i64 c)).put 1 (.bool a)).put 2 (.bool l)).put 3 (.int .i64 n)).put 4 (.slice A1 L.length c1))
  have HFx := Lib.hid (show Fr Nil w (((((w1.setCell ⟨w.heap.size, 0, none⟩ (.int .i64 c)).setCell ⟨w.heap.size, 1, none⟩ (.bool a)).setCell ⟨w.heap.size, 2, none⟩ (.bool l)).setCell ⟨w.heap.size, 3, none⟩ (.int .i64 n)).setCell ⟨w.heap.size, 4, none⟩ (.slice A1 L.length c1)) by
    refine Fr.setCell ?_ (fun h => by simp at h) _
    refine Fr.setCell ?_ (fun h => by simp at h) _
    refine Fr.setCell ?_ (fun h => by simp at h) _
    refine Fr.setCell ?_ (fun h => by simp at h) _
    refine Fr.setCell ?_ (fun h => by simp at h) _
    exact HF1.out)
  have HFy := Lib.hid (show Fr (fun k => k = w.heap.size) w1 (((((w1.setCell ⟨w.heap.size, 0, none⟩ (.int .i64 c)).setCell ⟨w.heap.size, 1, none⟩ (.bool a)).setCell ⟨w.heap.size, 2, none⟩ (.bool l)).setCell ⟨w.heap.size, 3, none⟩ (.int .i64 n)).setCell ⟨w.heap.size, 4, none⟩ (.slice A1 L.length c1)) by
    refine Fr.setCell (S := fun k => k = w.heap.size) ?_ (fun _ => rfl) _
    refine Fr.setCell (S := fun k => k = w.heap.size) ?_ (fun _ => rfl) _
    refine Fr.setCell (S := fun k => k = w.heap.size) ?_ (fun _ => rfl) _
    refine Fr.setCell (S := fun k => k = w.heap.size) ?_ (fun _ => rfl) _
    refine Fr.setCell (S := fun k => k = w.heap.size) ?_ (fun _ => rfl) _
    exact Fr.refl _ _)
  have HSy := Lib.hid (HS1.out.frS HFy.out (fun k hk hs => (HN1.out k hk).1 hs))
  have HszC := Lib.hid (show ((((((w1.setCell ⟨w.heap.size, 0, none⟩ (.int .i64 c)).setCell ⟨w.heap.size, 1, none⟩ (.bool a)).setCell ⟨w.heap.size, 2, none⟩ (.bool l)).setCell ⟨w.heap.size, 3, none⟩ (.int .i64 n)).setCell ⟨w.heap.size, 4, none⟩ (.slice A1 L.length c1))).heap.size = w1.heap.size by simp)
  have hLn := Lib.hid hL60
  have hLb := Lib.hid hl300
  clear hl300 hL60
  go_wp2_with (at_builtin; refine wpList_app EB_ok rfl (.tmp 15) (.tmp 16) 29 rfl rfl w1.heap.size _ _ [] bs rfl (Own.made (by simp) (by simp)) rfl (HV.out.fr (HFx.out.alloc _)) (by have := hLb.out; simp; omega) (by simp) ?_; intro v3 w3 o1 o2 o3 o4)
  have HF3 := Lib.hid ((HFx.out.alloc (.cells #[] 5)).then o2 (fun i hi hlt => by have := of_made hi; omega))
  have HB3 := Lib.hid ((HBx.out.alloc (.cells #[] 5)).fr o2 (fun hi => by have := of_made hi; have := HB1.out.lt; omega))
  have HS3 := Lib.hid ((HSy.out.fr ((Fr.refl Nil _).alloc (.cells #[] 5))).frS o2 (fun k hk hi => by have := (HN1.out k hk).2; have := of_made hi; omega))
  have HO3 := Lib.hid (show Sl EB w3 v3 bs from o1.sl EB_ok)
  have HV3 := Lib.hid (HV.out.fr HF3.out)
  clear o1 o2 o3 o4 HBx HFx HFy HSy HB1 HF1 HS1 HB G0 KF
  have KD := Lib.hid (decode_any w3 (by have := hLb.out; omega) HBy.out HO3.out)
  obtain ⟨A3, c3, rfl⟩ := HO3.out.shape
  go_wp2_with fail
  refine KD.out.mono ?_
  rintro e w4 ⟨hd, hf⟩
  have HF4 := Lib.hid (HF3.out.trans hf)
  have HB4 := Lib.hid (HB3.out.fr hf id)
  have HS4 := Lib.hid (HS3.out.fr hf)
  have HV4 := Lib.hid (HV3.out.fr hf)
  have hlt4 := HB4.out.lt
  have hne4 : ¬ w4.heap.size = w.heap.size := by omega
  have hne4' : ¬ w.heap.size = w4.heap.size := by omega
  clear hf KD
  rcases hd with ⟨x, sx, hgx, hex, rfl, hsx⟩ | ⟨hno, rfl⟩
  · obtain ⟨Ax, cx, rfl⟩ := hsx.shape
    obtain ⟨xc, xa, xl, xn, xids⟩ := x
    have HGx := Lib.hid hgx
    have HEx := Lib.hid hex
    have hxl : xids.length ≤ 1000 := by
      have h1 := congrArg List.length hex
      have h2 := hLb.out
      have h3 := ReplyH.parse_len (ReplyH.parse_enc hgx)
      rw [hex] at h3
      dsimp only at h3
      omega
    have KG := Lib.hid (fun W (h : Rv W (rv ⟨xc, xa, xl, xn, xids⟩ (.slice Ax xids.length cx)) ⟨xc, xa, xl, xn, xids⟩) => (goodR_any W _ _ (by dsimp only; omega) h).mono fun e w' hh => (show e = .returned (.bool true) ∧ Fr Nil W w' from ⟨tells_true hh.1 HGx.out, hh.2⟩))
    have KE := Lib.hid (fun W (h : Rv W (rv ⟨xc, xa, xl, xn, xids⟩ (.slice Ax xids.length cx)) ⟨xc, xa, xl, xn, xids⟩) => refenc_any W _ _ HGx.out (by dsimp only; omega) h)
    have KU := Lib.hid (fun W => lives_true W)
    rw [hex] at KE
    have HX := Lib.hid (show Rv w4 (rv ⟨xc, xa, xl, xn, xids⟩ (.slice Ax xids.length cx)) ⟨xc, xa, xl, xn, xids⟩ from ⟨_, rfl, hsx⟩)
    have hse := str_dec HBy.out HBy.out
    rw [decide_eq_true rfl] at hse
    have HT0 := Lib.hid (Bk.new w4 27 (rc ⟨xc, xa, xl, xn, xids⟩ (.slice Ax xids.length cx)))
    have HA0 := Lib.hid ((Fr.refl Nil w4).alloc (.cells (rc ⟨xc, xa, xl, xn, xids⟩ (.slice Ax xids.length cx)) 27))
    clear hex hgx hsx hxl
    unfold rv rc at *
    dsimp only at *
    go_wp2_with fail
    generalize w4.alloc (.cells #[.int .i64 xc, .bool xa, .bool xl, .int .i64 xn, .slice Ax xids.length cx] 27) = w5 at HT0 HA0 ⊢
    have z0 : Fr Nil w5 w5.drew := (Fr.refl Nil w5).drew
    have hcvb := ReplyE.conv_any w5.drew (HV4.out.fr (HA0.out.trans z0))
    obtain ⟨t0, t1, t2, t3, t4, _⟩ := (HT0.out.fr z0 id).c5
    go_region_with (first | (go_at_call 8; (with_reducible refine (KG.out _ (HX.out.fr (HA0.out.trans z0))).mono ?_); rintro e wa ⟨rfl, hfa⟩; have za : Fr Nil w5 wa := z0.trans hfa; have hcva := ReplyE.conv_any wa (HV4.out.fr (HA0.out.trans za)); obtain ⟨t0, t1, t2, t3, t4, _⟩ := (HT0.out.fr za id).c5) | (go_at_call 12; (with_reducible refine (KE.out _ (HX.out.fr (HA0.out.trans za))).mono ?_); rintro e wb ⟨ub, rfl, hfb, hob⟩; have zb : Fr Nil w5 wb := za.trans hfb; have hcvu := ReplyE.conv_any wb (hob.sl EB_ok).come; have hcvb2 := ReplyE.conv_any wb (HV4.out.fr (HA0.out.trans zb)); obtain ⟨t0, t1, t2, t3, t4, _⟩ := (HT0.out.fr zb id).c5) | (go_at_call 9; (with_reducible refine (KU.out _).mono ?_); rintro e wc ⟨rfl, hfc⟩; have zc : Fr Nil w5 wc := zb.trans hfc))
    all_goals
      go_wp2_with fail
      go_ret
      exact ⟨rfl, HF4.out.trans (HA0.out.trans zc)⟩
  · have HNo := Lib.hid hno
    clear hno
    have KS := Lib.hid (fun W => (sameR_any W zr zr _ _ (by decide) (by decide) (zr_rv W) (zr_rv W)).mono fun e w' hh => (show e = .returned (.bool true) ∧ Fr Nil W w' from ⟨tells_true hh.1 rfl, hh.2⟩))
    have KU := Lib.hid (fun W => lives_true W)
    have HT0 := Lib.hid (Bk.new w4 27 zeroR)
    have HA0 := Lib.hid ((Fr.refl Nil w4).alloc (.cells zeroR 27))
    have HB5 := Lib.hid (HB4.out.fr HA0.out id)
    have HV5 := Lib.hid (HV4.out.fr HA0.out)
    have HR5 := Lib.hid (show Rv (w4.alloc (.cells zeroR 27)) (rv ⟨c, a, l, n, L⟩ (.slice A1 L.length c1)) ⟨c, a, l, n, L⟩ from ⟨_, rfl, HS4.out.fr HA0.out⟩)
    by_cases hgr : GoodR ⟨c, a, l, n, L⟩
    · have KG := Lib.hid (fun W (h : Rv W (rv ⟨c, a, l, n, L⟩ (.slice A1 L.length c1)) ⟨c, a, l, n, L⟩) => (goodR_any W _ _ (by have := hLn.out; dsimp only; omega) h).mono fun e w' hh => (show e = .returned (.bool true) ∧ Fr Nil W w' from ⟨tells_true hh.1 hgr, hh.2⟩))
      have KE := Lib.hid (fun W (h : Rv W (rv ⟨c, a, l, n, L⟩ (.slice A1 L.length c1)) ⟨c, a, l, n, L⟩) => refenc_any W _ _ hgr (by have := hLn.out; dsimp only; omega) h)
      have hse := str_dec (encR_bytes hgr) HBy.out
      rw [decide_eq_false (HNo.out _ hgr)] at hse
      clear hgr
      unfold rv rc at *
      dsimp only at *
      go_wp2_with fail
      generalize w4.alloc (.cells #[.int .i64 0, .bool false, .bool false, .int .i64 0, .slice none 0 0] 27) = w5 at HT0 HA0 HB5 HV5 HR5 ⊢
      have z0 : Fr Nil w5 w5.drew := (Fr.refl Nil w5).drew
      have hcv0 := ReplyE.conv_any w5.drew (HV5.out.fr z0)
      obtain ⟨t0, t1, t2, t3, t4, _⟩ := (HT0.out.fr z0 id).c5
      obtain ⟨s0, s1, s2, s3, s4, _⟩ := (HB5.out.fr z0 id).c5
      go_region_with (first | (go_at_call 10; (with_reducible refine (KS.out _).mono ?_); rintro e wa ⟨rfl, hfa⟩; have za : Fr Nil w5 wa := z0.trans hfa; have hcva := ReplyE.conv_any wa (HV5.out.fr za); obtain ⟨t0, t1, t2, t3, t4, _⟩ := (HT0.out.fr za id).c5; obtain ⟨s0, s1, s2, s3, s4, _⟩ := (HB5.out.fr za id).c5) | (go_at_call 8; (with_reducible refine (KG.out _ (HR5.out.fr za)).mono ?_); rintro e wb ⟨rfl, hfb⟩; have zb : Fr Nil w5 wb := za.trans hfb; have hcvb := ReplyE.conv_any wb (HV5.out.fr zb); obtain ⟨t0, t1, t2, t3, t4, _⟩ := (HT0.out.fr zb id).c5; obtain ⟨s0, s1, s2, s3, s4, _⟩ := (HB5.out.fr zb id).c5) | (go_at_call 12; (with_reducible refine (KE.out _ (HR5.out.fr zb)).mono ?_); rintro e wc ⟨uc, rfl, hfc, hoc⟩; have zc : Fr Nil w5 wc := zb.trans hfc; have hcvu := ReplyE.conv_any wc (hoc.sl EB_ok).come; have hcvc := ReplyE.conv_any wc (HV5.out.fr zc); obtain ⟨t0, t1, t2, t3, t4, _⟩ := (HT0.out.fr zc id).c5; obtain ⟨s0, s1, s2, s3, s4, _⟩ := (HB5.out.fr zc id).c5) | (go_at_call 9; (with_reducible refine (KU.out _).mono ?_); rintro e wd ⟨rfl, hfd⟩; have zd : Fr Nil w5 wd := zc.trans hfd))
      all_goals
        go_wp2_with fail
        go_ret
        exact ⟨rfl, HF4.out.trans (HA0.out.trans zd)⟩
    · have KG := Lib.hid (fun W (h : Rv W (rv ⟨c, a, l, n, L⟩ (.slice A1 L.length c1)) ⟨c, a, l, n, L⟩) => (goodR_any W _ _ (by have := hLn.out; dsimp only; omega) h).mono fun e w' hh => (show e = .returned (.bool false) ∧ Fr Nil W w' from ⟨tells_false hh.1 hgr, hh.2⟩))
      clear hgr
      unfold rv rc at *
      dsimp only at *
      go_wp2_with fail
      generalize w4.alloc (.cells #[.int .i64 0, .bool false, .bool false, .int .i64 0, .slice none 0 0] 27) = w5 at HT0 HA0 HB5 HV5 HR5 ⊢
      have qt0 := fun (p : FrW Nil w5) => (HT0.out.fr p.fr id).cell 0
      have qs0 := fun (p : FrW Nil w5) => (HB5.out.fr p.fr id).cell 0
      have qt1 := fun (p : FrW Nil w5) => (HT0.out.fr p.fr id).cell 1
      have qs1 := fun (p : FrW Nil w5) => (HB5.out.fr p.fr id).cell 1
      have qt2 := fun (p : FrW Nil w5) => (HT0.out.fr p.fr id).cell 2
      have qs2 := fun (p : FrW Nil w5) => (HB5.out.fr p.fr id).cell 2
      have qt3 := fun (p : FrW Nil w5) => (HT0.out.fr p.fr id).cell 3
      have qs3 := fun (p : FrW Nil w5) => (HB5.out.fr p.fr id).cell 3
      have qt4 := fun (p : FrW Nil w5) => (HT0.out.fr p.fr id).cell 4
      have qs4 := fun (p : FrW Nil w5) => (HB5.out.fr p.fr id).cell 4
      refine wp_region_quiet_fr Nil (by kernel_rfl) (by kernel_rfl) ?_
      repeat (go_big_quiet_step (first
        | (go_at_call 10; with_reducible exact quiet_call (KS.out _))
        | (go_at_call 8; with_reducible exact quiet_call (KG.out _ (HR5.out.fr (by exact FrW.fr _))))
        | (go_at_call 9; with_reducible exact quiet_call (KU.out _))))
      refine wpQuiet_nil ?_
      intro _ hw'
      obtain ⟨⟨wq, hfq⟩, hw''⟩ := hw'
      subst hw''
      go_wp2_with fail
      go_ret
      exact ⟨rfl, HF4.out.trans (HA0.out.trans hfq)⟩
end Go.Proofs.Ytfkjonpbopoiaaa.ReplyO
