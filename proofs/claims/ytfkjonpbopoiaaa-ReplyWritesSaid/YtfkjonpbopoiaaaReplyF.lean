/- Chapter 30: two replies cut; the walk of the law ReplyApart. -/
import Derived.Test.YtfkjonpbopoiaaaReplyE
import Derived.Deep.RegionWith
import Derived.Deep.DeepCutAuto
namespace Go.Proofs.Ytfkjonpbopoiaaa.ReplyF
open Go.RowKit Base Slices VintA VintB Quiet ReplyA ReplyB ReplyC ReplyD ReplyE
set_option linter.unusedVariables false
set_option linter.unusedSimpArgs false

/-- both replies, cut, in their boxes -/
def Both (w : World) (r s : Rp) (wx : World) : Prop := ∃ p q, Bk wx w.heap.size 27 (rc (cut r) p) ∧ Bk wx (w.heap.size + 1) 27 (rc (cut s) q) ∧ Sl EI wx p (cut r).ids ∧ Sl EI wx q (cut s).ids ∧ Fr Nil w wx

theorem both_of {w wz : World} {r s : Rp} {x y p q : Value} (hB : Bk wz w.heap.size 27 (rc r x)) (hD : Bk wz (w.heap.size + 1) 27 (rc s y)) (hp : Sl EI wz p (cut r).ids) (hq : Sl EI wz q (cut s).ids)
    (np : ∀ k, p.ownBlock = some k → w.heap.size + 2 ≤ k) (nq : ∀ k, q.ownBlock = some k → w.heap.size + 2 ≤ k) (hf : Fr Nil w wz) :
    Both w r s ((((((((((wz.setCell ⟨w.heap.size, 0, none⟩ (.int .i64 r.c)).setCell ⟨w.heap.size, 1, none⟩ (.bool r.a)).setCell ⟨w.heap.size, 2, none⟩ (.bool r.l)).setCell ⟨w.heap.size, 3, none⟩ (.int .i64 r.n)).setCell ⟨w.heap.size, 4, none⟩ p).setCell ⟨w.heap.size + 1, 0, none⟩ (.int .i64 s.c)).setCell ⟨w.heap.size + 1, 1, none⟩ (.bool s.a)).setCell ⟨w.heap.size + 1, 2, none⟩ (.bool s.l)).setCell ⟨w.heap.size + 1, 3, none⟩ (.int .i64 s.n)).setCell ⟨w.heap.size + 1, 4, none⟩ q) := by
  have h1 : ∀ S : Nat → Prop, S w.heap.size → S (w.heap.size + 1) → ∀ a, Fr S a wz → Fr S a ((((((((((wz.setCell ⟨w.heap.size, 0, none⟩ (.int .i64 r.c)).setCell ⟨w.heap.size, 1, none⟩ (.bool r.a)).setCell ⟨w.heap.size, 2, none⟩ (.bool r.l)).setCell ⟨w.heap.size, 3, none⟩ (.int .i64 r.n)).setCell ⟨w.heap.size, 4, none⟩ p).setCell ⟨w.heap.size + 1, 0, none⟩ (.int .i64 s.c)).setCell ⟨w.heap.size + 1, 1, none⟩ (.bool s.a)).setCell ⟨w.heap.size + 1, 2, none⟩ (.bool s.l)).setCell ⟨w.heap.size + 1, 3, none⟩ (.int .i64 s.n)).setCell ⟨w.heap.size + 1, 4, none⟩ q) := by
    intro S h0 h1 a hfr
    refine Fr.setCell ?_ (fun _ => h1) _
    refine Fr.setCell ?_ (fun _ => h1) _
    refine Fr.setCell ?_ (fun _ => h1) _
    refine Fr.setCell ?_ (fun _ => h1) _
    refine Fr.setCell ?_ (fun _ => h1) _
    refine Fr.setCell ?_ (fun _ => h0) _
    refine Fr.setCell ?_ (fun _ => h0) _
    refine Fr.setCell ?_ (fun _ => h0) _
    refine Fr.setCell ?_ (fun _ => h0) _
    refine Fr.setCell ?_ (fun _ => h0) _
    exact hfr
  have h2 := h1 (fun k => k = w.heap.size ∨ k = w.heap.size + 1) (Or.inl rfl) (Or.inr rfl) wz (Fr.refl _ _)
  have h3 := h1 (fun k => w.heap.size ≤ k) (Nat.le_refl _) (by omega) w hf.of_nil
  refine ⟨p, q, ?_, ?_, hp.frS h2 (fun k hk hs => by have := np k hk; omega), hq.frS h2 (fun k hk hs => by have := nq k hk; omega), h3.mono fun k h1 h2 => absurd h1 (by omega)⟩
  · have hne : w.heap.size ≠ w.heap.size + 1 := by omega
    exact ((((((((((hB.put 0 _).put 1 _).put 2 _).put 3 _).put 4 _).far (p := ⟨w.heap.size + 1, 0, none⟩) hne _).far (p := ⟨w.heap.size + 1, 1, none⟩) hne _).far (p := ⟨w.heap.size + 1, 2, none⟩) hne _).far (p := ⟨w.heap.size + 1, 3, none⟩) hne _).far (p := ⟨w.heap.size + 1, 4, none⟩) hne _)
  · have hne : w.heap.size + 1 ≠ w.heap.size := by omega
    exact ((((((((((hD.far (p := ⟨w.heap.size, 0, none⟩) hne _).far (p := ⟨w.heap.size, 1, none⟩) hne _).far (p := ⟨w.heap.size, 2, none⟩) hne _).far (p := ⟨w.heap.size, 3, none⟩) hne _).far (p := ⟨w.heap.size, 4, none⟩) hne _).put 0 _).put 1 _).put 2 _).put 3 _).put 4 _)

set_option maxRecDepth 100000 in
set_option maxHeartbeats 8000000 in
theorem apart_any (w : World) (r s : Rp) (v u : Value) (hm : r.ids.length ≤ maxLen) (hm' : s.ids.length ≤ maxLen) (hv : Rc w v r) (hu : Rc w u s) :
    Calls Try.prog 3 #[v, u] w fun e w' => e = .returned (.bool true) ∧ Fr Nil w w' := by
  obtain ⟨p, rfl, hp⟩ := hv
  obtain ⟨q, rfl, hq⟩ := hu
  have HB := Lib.hid ((Bk.new w 27 (rc r p)).alloc (.cells (rc s q) 27))
  have HD := Lib.hid (show Bk ((w.alloc (.cells (rc r p) 27)).alloc (.cells (rc s q) 27)) (w.heap.size + 1) 27 (rc s q) by
    have h := Bk.new (w.alloc (.cells (rc r p) 27)) 27 (rc s q)
    rwa [show (w.alloc (.cells (rc r p) 27)).heap.size = w.heap.size + 1 by simp] at h)
  have G0 := Lib.hid (((Fr.refl Nil w).alloc (.cells (rc r p) 27)).alloc (.cells (rc s q) 27))
  have hR0 : Fr Nil ((w.alloc (.cells (rc r p) 27)).alloc (.cells (rc s q) 27)) ((w.alloc (.cells (rc r p) 27)).alloc (.cells (rc s q) 27)).drew := (Fr.refl _ _).drew
  have KF1 := Lib.hid (fun W (h : Fr Nil ((w.alloc (.cells (rc r p) 27)).alloc (.cells (rc s q) 27)) W) => few_new W r (rv r p) hm ⟨p, rfl, hp.fr (G0.out.trans h)⟩)
  have KF2 := Lib.hid (fun W (h : Fr Nil ((w.alloc (.cells (rc r p) 27)).alloc (.cells (rc s q) 27)) W) => few_new W s (rv s q) hm' ⟨q, rfl, hq.fr (G0.out.trans h)⟩)
  obtain ⟨A, cp, rfl⟩ := hp.shape
  obtain ⟨A', cp', rfl⟩ := hq.shape
  clear hp hq
  obtain ⟨c, a, l, n, ids⟩ := r
  obtain ⟨c', a', l', n', ids'⟩ := s
  unfold rv rc at *
  dsimp only at *
  obtain ⟨b0, b1, b2, b3, b4, f0, f1, f2, f3, f4⟩ := HB.out.c5
  obtain ⟨d0, d1, d2, d3, d4, g0, g1, g2, g3, g4⟩ := HD.out.c5
  have HZ := Lib.hid hR0
  clear hR0
  go_enter Try.func3, Try.ntmps3
  go_upto_region 1 with fail
  go_cut [2, 3, 4] (fun x2 x3 x4 wx => x2 = .pointer (some ⟨w.heap.size, 0, none⟩) ∧ x3 = .pointer (some ⟨w.heap.size + 1, 0, none⟩) ∧ x4 = .bool false ∧ Both w ⟨c, a, l, n, ids⟩ ⟨c', a', l', n', ids'⟩ wx)
  case first =>
    go_region_with (first
      | (go_at_call 6; (with_reducible refine (KF1.out _ (by first | exact F2 | exact HZ.out)).mono ?_); rintro e wa ⟨ua, rfl, hfa, hra⟩; obtain ⟨pa, hpa, hsa, hna⟩ := hra; obtain ⟨A1, c1, rfl⟩ := hsa.shape; have hpa' : ua = .agg #[.int .i64 c, .bool a, .bool l, .int .i64 n, .slice A1 (cut ⟨c, a, l, n, ids⟩).ids.length c1] := hpa; subst hpa'; have RA := Lib.hid hsa; have FA := Lib.hid hfa; have QA := Lib.hid (fun k hk => Nat.le_trans (Fr.size (by first | exact F2 | exact HZ.out)) (hna k hk)); clear hpa hsa hna; have F1 := Fr.trans (by first | exact F2 | exact HZ.out) hfa; obtain ⟨b0, b1, b2, b3, b4, f0, f1, f2, f3, f4⟩ := (HB.out.fr F1 id).c5; obtain ⟨d0, d1, d2, d3, d4, g0, g1, g2, g3, g4⟩ := (HD.out.fr F1 id).c5)
      | (go_at_call 6; (with_reducible refine (KF2.out _ (by first | exact F1 | exact HZ.out)).mono ?_); rintro e wb ⟨ub, rfl, hfb, hrb⟩; obtain ⟨pb, hpb, hsb, hnb⟩ := hrb; obtain ⟨A2, c2, rfl⟩ := hsb.shape; have hpb' : ub = .agg #[.int .i64 c', .bool a', .bool l', .int .i64 n', .slice A2 (cut ⟨c', a', l', n', ids'⟩).ids.length c2] := hpb; subst hpb'; have RB := Lib.hid hsb; have FB := Lib.hid hfb; have QB := Lib.hid (fun k hk => Nat.le_trans (Fr.size (by first | exact F1 | exact HZ.out)) (hnb k hk)); clear hpb hsb hnb; have F2 := Fr.trans (by first | exact F1 | exact HZ.out) hfb; obtain ⟨b0, b1, b2, b3, b4, f0, f1, f2, f3, f4⟩ := (HB.out.fr F2 id).c5; obtain ⟨d0, d1, d2, d3, d4, g0, g1, g2, g3, g4⟩ := (HD.out.fr F2 id).c5))
    all_goals
      go_wp2_with fail
      go_meet
      first
        | exact ⟨rfl, rfl, rfl, both_of (HB.out.fr F2 id) (HD.out.fr F2 id) (RA.out.fr FB.out) RB.out (fun k hk => by have := QA.out k hk; simp at this; omega) (fun k hk => by have := QB.out k hk; simp at this; omega) (G0.out.trans F2)⟩
        | exact ⟨rfl, rfl, rfl, both_of (HB.out.fr F1 id) (HD.out.fr F1 id) RA.out (RB.out.fr FA.out) (fun k hk => by have := QA.out k hk; simp at this; omega) (fun k hk => by have := QB.out k hk; simp at this; omega) (G0.out.trans F1)⟩
  case rest =>
    obtain ⟨rfl, rfl, rfl, P, Q, hB, hD, hs1, hs2, hf⟩ := hcut
    have hl1 := cut_len ⟨c, a, l, n, ids⟩
    have hl2 := cut_len ⟨c', a', l', n', ids'⟩
    clear HB HD G0 KF1 KF2 HZ b0 b1 b2 b3 b4 f0 f1 f2 f3 f4 d0 d1 d2 d3 d4 g0 g1 g2 g3 g4
    generalize cut ⟨c, a, l, n, ids⟩ = R at *
    generalize cut ⟨c', a', l', n', ids'⟩ = S at *
    have G := Lib.hid hf
    have HB := Lib.hid hB
    have HD := Lib.hid hD
    have U := Lib.hid (show Rv wc (rv R P) R from ⟨P, rfl, hs1⟩)
    have V := Lib.hid (show Rv wc (rv S Q) S from ⟨Q, rfl, hs2⟩)
    obtain ⟨A1, c1, rfl⟩ := hs1.shape
    obtain ⟨A2, c2, rfl⟩ := hs2.shape
    clear hf hB hD hs1 hs2 hm hm'
    have KF := Lib.hid (fun W x (h : Rv W x R) => few_sl W R x hl1 h)
    have KF' := Lib.hid (fun W x (h : Rv W x S) => few_sl W S x hl2 h)
    have KG := Lib.hid (fun W x (h : Rv W x R) => goodR_any W R x (by omega) h)
    have KG' := Lib.hid (fun W x (h : Rv W x S) => goodR_any W S x (by omega) h)
    have KU := Lib.hid (fun W => lives_true W)
    obtain ⟨b0, b1, b2, b3, b4, _⟩ := HB.out.c5
    obtain ⟨d0, d1, d2, d3, d4, _⟩ := HD.out.c5
    go_wp2_with fail
    refine (KF.out _ _ U.out).mono ?_
    rintro e w1 ⟨x1, rfl, hf, hx⟩
    have G := Lib.hid (G.out.trans hf)
    have HB := Lib.hid (HB.out.fr hf id)
    have HD := Lib.hid (HD.out.fr hf id)
    have U := Lib.hid (U.out.fr hf)
    have V := Lib.hid (V.out.fr hf)
    have X := Lib.hid (hx)
    clear hf hx
    obtain ⟨b0, b1, b2, b3, b4, _⟩ := HB.out.c5
    obtain ⟨d0, d1, d2, d3, d4, _⟩ := HD.out.c5
    obtain ⟨px, hpx, hsx⟩ := X.out
    obtain ⟨A3, c3, rfl⟩ := hsx.shape
    unfold rv rc at hpx
    subst hpx
    clear hsx
    go_wp2_with fail
    by_cases hg : GoodR R
    · by_cases hg' : GoodR S
      · have KE := Lib.hid (fun W x (h : Rv W x R) => encode_ok W R x hg (by omega) h)
        refine (KE.out _ _ X.out).mono ?_
        rintro e w2 ⟨y1, rfl, hf, ho⟩
        have G := Lib.hid (G.out.trans hf)
        have HB := Lib.hid (HB.out.fr hf id)
        have HD := Lib.hid (HD.out.fr hf id)
        have U := Lib.hid (U.out.fr hf)
        have V := Lib.hid (V.out.fr hf)
        have Y := Lib.hid ((ho.sl EB_ok))
        clear hf
        obtain ⟨b0, b1, b2, b3, b4, _⟩ := HB.out.c5
        obtain ⟨d0, d1, d2, d3, d4, _⟩ := HD.out.c5
        clear ho
        go_wp2_with fail
        refine (KF'.out _ _ V.out).mono ?_
        rintro e w3 ⟨x2, rfl, hf, hx⟩
        have G := Lib.hid (G.out.trans hf)
        have HB := Lib.hid (HB.out.fr hf id)
        have HD := Lib.hid (HD.out.fr hf id)
        have U := Lib.hid (U.out.fr hf)
        have V := Lib.hid (V.out.fr hf)
        have Y := Lib.hid (Y.out.fr hf)
        have Z := Lib.hid (hx)
        clear hf hx
        obtain ⟨b0, b1, b2, b3, b4, _⟩ := HB.out.c5
        obtain ⟨d0, d1, d2, d3, d4, _⟩ := HD.out.c5
        obtain ⟨pz, hpz, hsz⟩ := Z.out
        obtain ⟨A4, c4, rfl⟩ := hsz.shape
        unfold rv rc at hpz
        subst hpz
        clear hsz
        go_wp2_with fail
        have KE' := Lib.hid (fun W x (h : Rv W x S) => encode_ok W S x hg' (by omega) h)
        refine (KE'.out _ _ Z.out).mono ?_
        rintro e w4 ⟨y2, rfl, hf, ho⟩
        have G := Lib.hid (G.out.trans hf)
        have HB := Lib.hid (HB.out.fr hf id)
        have HD := Lib.hid (HD.out.fr hf id)
        have U := Lib.hid (U.out.fr hf)
        have V := Lib.hid (V.out.fr hf)
        have Y := Lib.hid (Y.out.fr hf)
        have Y' := Lib.hid ((ho.sl EB_ok))
        clear hf
        obtain ⟨b0, b1, b2, b3, b4, _⟩ := HB.out.c5
        obtain ⟨d0, d1, d2, d3, d4, _⟩ := HD.out.c5
        clear ho
        go_wp2_with fail
        by_cases he : R = S
        · subst he
          have KS := Lib.hid (fun W (h : Fr Nil w4 W) => (sameR_any W R R _ _ (by omega) (by omega) (U.out.fr h) (V.out.fr h)).mono fun e w' hh => (show e = .returned (.bool true) ∧ Fr Nil W w' by obtain ⟨⟨bb, h1, h2⟩, h3⟩ := hh; rw [h2.2 rfl] at h1; exact ⟨h1, h3⟩))
          have hse := str_eq (encR R)
          have qy := fun (p : FrW Nil w4) => conv_any p.val (Y.out.fr p.fr).come
          have qz := fun (p : FrW Nil w4) => conv_any p.val (Y'.out.fr p.fr).come
          have qm0 := fun (p : FrW Nil w4) => (HB.out.fr p.fr id).cell 0
          have qm1 := fun (p : FrW Nil w4) => (HB.out.fr p.fr id).cell 1
          have qm2 := fun (p : FrW Nil w4) => (HB.out.fr p.fr id).cell 2
          have qm3 := fun (p : FrW Nil w4) => (HB.out.fr p.fr id).cell 3
          have qm4 := fun (p : FrW Nil w4) => (HB.out.fr p.fr id).cell 4
          have qk0 := fun (p : FrW Nil w4) => (HD.out.fr p.fr id).cell 0
          have qk1 := fun (p : FrW Nil w4) => (HD.out.fr p.fr id).cell 1
          have qk2 := fun (p : FrW Nil w4) => (HD.out.fr p.fr id).cell 2
          have qk3 := fun (p : FrW Nil w4) => (HD.out.fr p.fr id).cell 3
          have qk4 := fun (p : FrW Nil w4) => (HD.out.fr p.fr id).cell 4
          unfold rv rc at KS U V
          clear b0 b1 b2 b3 b4 d0 d1 d2 d3 d4
          simp only [rc] at qm0 qm1 qm2 qm3 qm4 qk0 qk1 qk2 qk3 qk4
          refine wp_region_quiet_fr Nil (by kernel_rfl) (by kernel_rfl) ?_
          repeat (go_big_quiet_step (first
            | (go_at_call 10; with_reducible exact quiet_call (KS.out _ (by exact FrW.fr _)))
            | (go_at_call 9; with_reducible exact quiet_call (KU.out _))))
          refine wpQuiet_nil ?_
          intro _ hw'
          obtain ⟨⟨wq, hfq⟩, hw''⟩ := hw'
          subst hw''
          go_wp2_with fail
          go_ret
          exact ⟨rfl, G.out.trans hfq⟩
        · have KS := Lib.hid (fun W (h : Fr Nil w4 W) => (sameR_any W R S _ _ (by omega) (by omega) (U.out.fr h) (V.out.fr h)).mono fun e w' hh => (show e = .returned (.bool false) ∧ Fr Nil W w' by obtain ⟨⟨bb, h1, h2⟩, h3⟩ := hh; cases bb with | false => exact ⟨h1, h3⟩ | true => exact absurd (h2.1 rfl) he))
          have hse := str_ne (encR_byte hg) (encR_byte hg') fun h => he (encR_inj hg hg' h)
          have qy := fun (p : FrW Nil w4) => conv_any p.val (Y.out.fr p.fr).come
          have qz := fun (p : FrW Nil w4) => conv_any p.val (Y'.out.fr p.fr).come
          have qm0 := fun (p : FrW Nil w4) => (HB.out.fr p.fr id).cell 0
          have qm1 := fun (p : FrW Nil w4) => (HB.out.fr p.fr id).cell 1
          have qm2 := fun (p : FrW Nil w4) => (HB.out.fr p.fr id).cell 2
          have qm3 := fun (p : FrW Nil w4) => (HB.out.fr p.fr id).cell 3
          have qm4 := fun (p : FrW Nil w4) => (HB.out.fr p.fr id).cell 4
          have qk0 := fun (p : FrW Nil w4) => (HD.out.fr p.fr id).cell 0
          have qk1 := fun (p : FrW Nil w4) => (HD.out.fr p.fr id).cell 1
          have qk2 := fun (p : FrW Nil w4) => (HD.out.fr p.fr id).cell 2
          have qk3 := fun (p : FrW Nil w4) => (HD.out.fr p.fr id).cell 3
          have qk4 := fun (p : FrW Nil w4) => (HD.out.fr p.fr id).cell 4
          unfold rv rc at KS U V
          clear b0 b1 b2 b3 b4 d0 d1 d2 d3 d4
          simp only [rc] at qm0 qm1 qm2 qm3 qm4 qk0 qk1 qk2 qk3 qk4
          refine wp_region_quiet_fr Nil (by kernel_rfl) (by kernel_rfl) ?_
          repeat (go_big_quiet_step (first
            | (go_at_call 10; with_reducible exact quiet_call (KS.out _ (by exact FrW.fr _)))
            | (go_at_call 9; with_reducible exact quiet_call (KU.out _))))
          refine wpQuiet_nil ?_
          intro _ hw'
          obtain ⟨⟨wq, hfq⟩, hw''⟩ := hw'
          subst hw''
          go_wp2_with fail
          go_ret
          exact ⟨rfl, G.out.trans hfq⟩
      · have KE := Lib.hid (fun W x (h : Rv W x R) => encode_ok W R x hg (by omega) h)
        refine (KE.out _ _ X.out).mono ?_
        rintro e w2 ⟨y1, rfl, hf, ho⟩
        have G := Lib.hid (G.out.trans hf)
        have HB := Lib.hid (HB.out.fr hf id)
        have HD := Lib.hid (HD.out.fr hf id)
        have U := Lib.hid (U.out.fr hf)
        have V := Lib.hid (V.out.fr hf)
        have Y := Lib.hid ((ho.sl EB_ok))
        clear hf
        obtain ⟨b0, b1, b2, b3, b4, _⟩ := HB.out.c5
        obtain ⟨d0, d1, d2, d3, d4, _⟩ := HD.out.c5
        clear ho
        go_wp2_with fail
        refine (KF'.out _ _ V.out).mono ?_
        rintro e w3 ⟨x2, rfl, hf, hx⟩
        have G := Lib.hid (G.out.trans hf)
        have HB := Lib.hid (HB.out.fr hf id)
        have HD := Lib.hid (HD.out.fr hf id)
        have U := Lib.hid (U.out.fr hf)
        have V := Lib.hid (V.out.fr hf)
        have Y := Lib.hid (Y.out.fr hf)
        have Z := Lib.hid (hx)
        clear hf hx
        obtain ⟨b0, b1, b2, b3, b4, _⟩ := HB.out.c5
        obtain ⟨d0, d1, d2, d3, d4, _⟩ := HD.out.c5
        obtain ⟨pz, hpz, hsz⟩ := Z.out
        obtain ⟨A4, c4, rfl⟩ := hsz.shape
        unfold rv rc at hpz
        subst hpz
        clear hsz
        go_wp2_with fail
        have KE' := Lib.hid (fun W x (h : Rv W x S) => encode_bad W S x hg' (by omega) h)
        refine (KE'.out _ _ Z.out).mono ?_
        rintro e w4 ⟨rfl, hf⟩
        have G := Lib.hid (G.out.trans hf)
        have HB := Lib.hid (HB.out.fr hf id)
        have HD := Lib.hid (HD.out.fr hf id)
        have U := Lib.hid (U.out.fr hf)
        have V := Lib.hid (V.out.fr hf)
        have Y := Lib.hid (Y.out.fr hf)
        clear hf
        obtain ⟨b0, b1, b2, b3, b4, _⟩ := HB.out.c5
        obtain ⟨d0, d1, d2, d3, d4, _⟩ := HD.out.c5
        go_wp2_with fail
        refine (KG.out _ _ U.out).mono ?_
        rintro e w5 ⟨⟨bb, rfl, hbb⟩, hf⟩
        have G := Lib.hid (G.out.trans hf)
        have HB := Lib.hid (HB.out.fr hf id)
        have HD := Lib.hid (HD.out.fr hf id)
        have U := Lib.hid (U.out.fr hf)
        have V := Lib.hid (V.out.fr hf)
        have Y := Lib.hid (Y.out.fr hf)
        clear hf
        obtain ⟨b0, b1, b2, b3, b4, _⟩ := HB.out.c5
        obtain ⟨d0, d1, d2, d3, d4, _⟩ := HD.out.c5
        obtain rfl : bb = true := hbb.2 hg
        clear hbb
        go_wp2_with fail
        refine (KG'.out _ _ V.out).mono ?_
        rintro e w6 ⟨⟨bb, rfl, hbb⟩, hf⟩
        have G := Lib.hid (G.out.trans hf)
        have HB := Lib.hid (HB.out.fr hf id)
        have HD := Lib.hid (HD.out.fr hf id)
        have U := Lib.hid (U.out.fr hf)
        have V := Lib.hid (V.out.fr hf)
        have Y := Lib.hid (Y.out.fr hf)
        clear hf
        obtain ⟨b0, b1, b2, b3, b4, _⟩ := HB.out.c5
        obtain ⟨d0, d1, d2, d3, d4, _⟩ := HD.out.c5
        obtain rfl : bb = false := by
          cases bb with
          | false => rfl
          | true => exact absurd (hbb.1 rfl) hg'
        clear hbb
        go_wp2_with fail
        refine (KU.out _).mono ?_
        rintro e w7 ⟨rfl, hf⟩
        have G := Lib.hid (G.out.trans hf)
        have HB := Lib.hid (HB.out.fr hf id)
        have HD := Lib.hid (HD.out.fr hf id)
        have U := Lib.hid (U.out.fr hf)
        have V := Lib.hid (V.out.fr hf)
        have Y := Lib.hid (Y.out.fr hf)
        clear hf
        go_wp2_with fail
        go_ret
        exact ⟨rfl, G.out⟩
    · by_cases hg' : GoodR S
      · have KE := Lib.hid (fun W x (h : Rv W x R) => encode_bad W R x hg (by omega) h)
        refine (KE.out _ _ X.out).mono ?_
        rintro e w2 ⟨rfl, hf⟩
        have G := Lib.hid (G.out.trans hf)
        have HB := Lib.hid (HB.out.fr hf id)
        have HD := Lib.hid (HD.out.fr hf id)
        have U := Lib.hid (U.out.fr hf)
        have V := Lib.hid (V.out.fr hf)
        clear hf
        obtain ⟨b0, b1, b2, b3, b4, _⟩ := HB.out.c5
        obtain ⟨d0, d1, d2, d3, d4, _⟩ := HD.out.c5
        go_wp2_with fail
        refine (KF'.out _ _ V.out).mono ?_
        rintro e w3 ⟨x2, rfl, hf, hx⟩
        have G := Lib.hid (G.out.trans hf)
        have HB := Lib.hid (HB.out.fr hf id)
        have HD := Lib.hid (HD.out.fr hf id)
        have U := Lib.hid (U.out.fr hf)
        have V := Lib.hid (V.out.fr hf)
        have Z := Lib.hid (hx)
        clear hf hx
        obtain ⟨b0, b1, b2, b3, b4, _⟩ := HB.out.c5
        obtain ⟨d0, d1, d2, d3, d4, _⟩ := HD.out.c5
        obtain ⟨pz, hpz, hsz⟩ := Z.out
        obtain ⟨A4, c4, rfl⟩ := hsz.shape
        unfold rv rc at hpz
        subst hpz
        clear hsz
        go_wp2_with fail
        have KE' := Lib.hid (fun W x (h : Rv W x S) => encode_ok W S x hg' (by omega) h)
        refine (KE'.out _ _ Z.out).mono ?_
        rintro e w4 ⟨y2, rfl, hf, ho⟩
        have G := Lib.hid (G.out.trans hf)
        have HB := Lib.hid (HB.out.fr hf id)
        have HD := Lib.hid (HD.out.fr hf id)
        have U := Lib.hid (U.out.fr hf)
        have V := Lib.hid (V.out.fr hf)
        have Y' := Lib.hid ((ho.sl EB_ok))
        clear hf
        obtain ⟨b0, b1, b2, b3, b4, _⟩ := HB.out.c5
        obtain ⟨d0, d1, d2, d3, d4, _⟩ := HD.out.c5
        clear ho
        go_wp2_with fail
        refine (KG.out _ _ U.out).mono ?_
        rintro e w5 ⟨⟨bb, rfl, hbb⟩, hf⟩
        have G := Lib.hid (G.out.trans hf)
        have HB := Lib.hid (HB.out.fr hf id)
        have HD := Lib.hid (HD.out.fr hf id)
        have U := Lib.hid (U.out.fr hf)
        have V := Lib.hid (V.out.fr hf)
        have Y' := Lib.hid (Y'.out.fr hf)
        clear hf
        obtain ⟨b0, b1, b2, b3, b4, _⟩ := HB.out.c5
        obtain ⟨d0, d1, d2, d3, d4, _⟩ := HD.out.c5
        obtain rfl : bb = false := by
          cases bb with
          | false => rfl
          | true => exact absurd (hbb.1 rfl) hg
        clear hbb
        go_wp2_with fail
        refine (KU.out _).mono ?_
        rintro e w6 ⟨rfl, hf⟩
        have G := Lib.hid (G.out.trans hf)
        have HB := Lib.hid (HB.out.fr hf id)
        have HD := Lib.hid (HD.out.fr hf id)
        have U := Lib.hid (U.out.fr hf)
        have V := Lib.hid (V.out.fr hf)
        have Y' := Lib.hid (Y'.out.fr hf)
        clear hf
        go_wp2_with fail
        go_ret
        exact ⟨rfl, G.out⟩
      · have KE := Lib.hid (fun W x (h : Rv W x R) => encode_bad W R x hg (by omega) h)
        refine (KE.out _ _ X.out).mono ?_
        rintro e w2 ⟨rfl, hf⟩
        have G := Lib.hid (G.out.trans hf)
        have HB := Lib.hid (HB.out.fr hf id)
        have HD := Lib.hid (HD.out.fr hf id)
        have U := Lib.hid (U.out.fr hf)
        have V := Lib.hid (V.out.fr hf)
        clear hf
        obtain ⟨b0, b1, b2, b3, b4, _⟩ := HB.out.c5
        obtain ⟨d0, d1, d2, d3, d4, _⟩ := HD.out.c5
        go_wp2_with fail
        refine (KF'.out _ _ V.out).mono ?_
        rintro e w3 ⟨x2, rfl, hf, hx⟩
        have G := Lib.hid (G.out.trans hf)
        have HB := Lib.hid (HB.out.fr hf id)
        have HD := Lib.hid (HD.out.fr hf id)
        have U := Lib.hid (U.out.fr hf)
        have V := Lib.hid (V.out.fr hf)
        have Z := Lib.hid (hx)
        clear hf hx
        obtain ⟨b0, b1, b2, b3, b4, _⟩ := HB.out.c5
        obtain ⟨d0, d1, d2, d3, d4, _⟩ := HD.out.c5
        obtain ⟨pz, hpz, hsz⟩ := Z.out
        obtain ⟨A4, c4, rfl⟩ := hsz.shape
        unfold rv rc at hpz
        subst hpz
        clear hsz
        go_wp2_with fail
        have KE' := Lib.hid (fun W x (h : Rv W x S) => encode_bad W S x hg' (by omega) h)
        refine (KE'.out _ _ Z.out).mono ?_
        rintro e w4 ⟨rfl, hf⟩
        have G := Lib.hid (G.out.trans hf)
        have HB := Lib.hid (HB.out.fr hf id)
        have HD := Lib.hid (HD.out.fr hf id)
        have U := Lib.hid (U.out.fr hf)
        have V := Lib.hid (V.out.fr hf)
        clear hf
        obtain ⟨b0, b1, b2, b3, b4, _⟩ := HB.out.c5
        obtain ⟨d0, d1, d2, d3, d4, _⟩ := HD.out.c5
        go_wp2_with fail
        refine (KG.out _ _ U.out).mono ?_
        rintro e w5 ⟨⟨bb, rfl, hbb⟩, hf⟩
        have G := Lib.hid (G.out.trans hf)
        have HB := Lib.hid (HB.out.fr hf id)
        have HD := Lib.hid (HD.out.fr hf id)
        have U := Lib.hid (U.out.fr hf)
        have V := Lib.hid (V.out.fr hf)
        clear hf
        obtain ⟨b0, b1, b2, b3, b4, _⟩ := HB.out.c5
        obtain ⟨d0, d1, d2, d3, d4, _⟩ := HD.out.c5
        obtain rfl : bb = false := by
          cases bb with
          | false => rfl
          | true => exact absurd (hbb.1 rfl) hg
        clear hbb
        go_wp2_with fail
        refine (KU.out _).mono ?_
        rintro e w6 ⟨rfl, hf⟩
        have G := Lib.hid (G.out.trans hf)
        have HB := Lib.hid (HB.out.fr hf id)
        have HD := Lib.hid (HD.out.fr hf id)
        have U := Lib.hid (U.out.fr hf)
        have V := Lib.hid (V.out.fr hf)
        clear hf
        go_wp2_with fail
        go_ret
        exact ⟨rfl, G.out⟩
end Go.Proofs.Ytfkjonpbopoiaaa.ReplyF
