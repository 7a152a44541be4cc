/- Chapter 30: the walk of the law ReplyWrites. -/
import Derived.Test.YtfkjonpbopoiaaaReplyF
import Derived.Test.YtfkjonpbopoiaaaReplyL
import Derived.Test.YtfkjonpbopoiaaaReplyM
import Derived.Test.YtfkjonpbopoiaaaReplyQ
import Derived.Deep.RegionHeld3
namespace Go.Proofs.Ytfkjonpbopoiaaa.ReplyR
open Go.RowKit Base Slices TrapA TrapB TrapG VintA VintB VintC VintD Quiet ReplyA ReplyB ReplyC ReplyD ReplyE ReplyF ReplyK ReplyL ReplyM ReplyQ
set_option linter.unusedVariables false
set_option linter.unusedSimpArgs false

theorem sl_lt {α : Type} {E : El α} {w : World} {v : Value} {l : List α} (h : Sl E w v l) {k : Nat} (hk : v.ownBlock = some k) : k < w.heap.size := by
  rcases h with ⟨rfl, _⟩ | ⟨g, o, cap, rfl, _, ha, _⟩
  · cases hk
  · simp [Value.ownBlock] at hk; omega
theorem of_made {g i : Nat} (h : Slices.Of (.slice (some ⟨g, 0, none⟩) 0 0) i) : i = g := by
  unfold Slices.Of at h
  simp [Value.ownBlock] at h
  exact h.symm
theorem encR_bytes {r : Rp} (h : GoodR r) : Bytes (encR r) := encR_byte h
theorem tells_true {P : Prop} {e : Ending} (h : Tells P e) (hp : P) : e = .returned (.bool true) := by
  obtain ⟨b, h1, h2⟩ := h
  rw [h2.2 hp] at h1
  exact h1
theorem tells_false {P : Prop} {e : Ending} (h : Tells P e) (hp : ¬ P) : e = .returned (.bool false) := by
  obtain ⟨b, h1, h2⟩ := h
  cases b with
  | false => exact h1
  | true => exact absurd (h2.1 rfl) hp
theorem tells_is {P : Prop} {e : Ending} {b : Bool} (h : Tells P e) (hb : b = true ↔ P) : e = .returned (.bool b) := by
  obtain ⟨c, h1, h2⟩ := h
  have : c = b := by cases b <;> cases c <;> simp_all
  rw [← this]
  exact h1

set_option maxRecDepth 100000 in
set_option maxHeartbeats 8000000 in
theorem writes_any (w : World) (r s : Rp) (v u : Value) (hm : r.ids.length ≤ maxLen) (hm' : s.ids.length ≤ maxLen) (hv : Rc w v r) (hu : Rc w u s) :
    Calls Try.prog 5 #[v, u] w fun e w' => e = .returned (.bool true) ∧ Fr Nil w w' := by
  obtain ⟨p, rfl, hp⟩ := hv
  obtain ⟨q, rfl, hq⟩ := hu
  have HB := Lib.hid ((Bk.new w 27 (rc r p)).alloc (.cells (rc s q) 27))
  have HD := Lib.hid (show Bk ((w.alloc (.cells (rc r p) 27)).alloc (.cells (rc s q) 27)) (w.heap.size + 1) 27 (rc s q) by
    have h := Bk.new (w.alloc (.cells (rc r p) 27)) 27 (rc s q)
    rwa [show (w.alloc (.cells (rc r p) 27)).heap.size = w.heap.size + 1 by simp] at h)
  have G0 := Lib.hid (((Fr.refl Nil w).alloc (.cells (rc r p) 27)).alloc (.cells (rc s q) 27))
  have hR0 : Fr Nil ((w.alloc (.cells (rc r p) 27)).alloc (.cells (rc s q) 27)) ((w.alloc (.cells (rc r p) 27)).alloc (.cells (rc s q) 27)).drew := (Fr.refl _ _).drew
  have KF1 := Lib.hid (fun W (h : Fr Nil ((w.alloc (.cells (rc r p) 27)).alloc (.cells (rc s q) 27)) W) => few_new W r (rv r p) hm ⟨p, rfl, hp.fr (G0.out.trans h)⟩)
  have KF2 := Lib.hid (fun W (h : Fr Nil ((w.alloc (.cells (rc r p) 27)).alloc (.cells (rc s q) 27)) W) => few_new W s (rv s q) hm' ⟨q, rfl, hq.fr (G0.out.trans h)⟩)
  obtain ⟨A, cp, rfl⟩ := hp.shape
  obtain ⟨A', cp', rfl⟩ := hq.shape
  clear hp hq
  obtain ⟨c, a, l, n, ids⟩ := r
  obtain ⟨c', a', l', n', ids'⟩ := s
  unfold rv rc at *
  dsimp only at *
  obtain ⟨b0, b1, b2, b3, b4, f0, f1, f2, f3, f4⟩ := HB.out.c5
  obtain ⟨d0, d1, d2, d3, d4, g0, g1, g2, g3, g4⟩ := HD.out.c5
  have HZ := Lib.hid hR0
  clear hR0
  go_enter Try.func5, Try.ntmps5
  go_upto_region 1 with fail
  go_cut [2, 3, 4] (fun x2 x3 x4 wx => x2 = .pointer (some ⟨w.heap.size, 0, none⟩) ∧ x3 = .pointer (some ⟨w.heap.size + 1, 0, none⟩) ∧ x4 = .bool false ∧ Both w ⟨c, a, l, n, ids⟩ ⟨c', a', l', n', ids'⟩ wx)
  case first =>
    go_region_with (first
      | (go_at_call 6; (with_reducible refine (KF1.out _ (by first | exact F2 | exact HZ.out)).mono ?_); rintro e wa ⟨ua, rfl, hfa, hra⟩; obtain ⟨pa, hpa, hsa, hna⟩ := hra; obtain ⟨A1, c1, rfl⟩ := hsa.shape; have hpa' : ua = .agg #[.int .i64 c, .bool a, .bool l, .int .i64 n, .slice A1 (cut ⟨c, a, l, n, ids⟩).ids.length c1] := hpa; subst hpa'; have RA := Lib.hid hsa; have FA := Lib.hid hfa; have QA := Lib.hid (fun k hk => Nat.le_trans (Fr.size (by first | exact F2 | exact HZ.out)) (hna k hk)); clear hpa hsa hna; have F1 := Fr.trans (by first | exact F2 | exact HZ.out) hfa; obtain ⟨b0, b1, b2, b3, b4, f0, f1, f2, f3, f4⟩ := (HB.out.fr F1 id).c5; obtain ⟨d0, d1, d2, d3, d4, g0, g1, g2, g3, g4⟩ := (HD.out.fr F1 id).c5)
      | (go_at_call 6; (with_reducible refine (KF2.out _ (by first | exact F1 | exact HZ.out)).mono ?_); rintro e wb ⟨ub, rfl, hfb, hrb⟩; obtain ⟨pb, hpb, hsb, hnb⟩ := hrb; obtain ⟨A2, c2, rfl⟩ := hsb.shape; have hpb' : ub = .agg #[.int .i64 c', .bool a', .bool l', .int .i64 n', .slice A2 (cut ⟨c', a', l', n', ids'⟩).ids.length c2] := hpb; subst hpb'; have RB := Lib.hid hsb; have FB := Lib.hid hfb; have QB := Lib.hid (fun k hk => Nat.le_trans (Fr.size (by first | exact F1 | exact HZ.out)) (hnb k hk)); clear hpb hsb hnb; have F2 := Fr.trans (by first | exact F1 | exact HZ.out) hfb; obtain ⟨b0, b1, b2, b3, b4, f0, f1, f2, f3, f4⟩ := (HB.out.fr F2 id).c5; obtain ⟨d0, d1, d2, d3, d4, g0, g1, g2, g3, g4⟩ := (HD.out.fr F2 id).c5))
    all_goals
      go_wp2_with fail
      go_meet
      first
        | exact ⟨rfl, rfl, rfl, both_of (HB.out.fr F2 id) (HD.out.fr F2 id) (RA.out.fr FB.out) RB.out (fun k hk => by have := QA.out k hk; simp at this; omega) (fun k hk => by have := QB.out k hk; simp at this; omega) (G0.out.trans F2)⟩
        | exact ⟨rfl, rfl, rfl, both_of (HB.out.fr F1 id) (HD.out.fr F1 id) RA.out (RB.out.fr FA.out) (fun k hk => by have := QA.out k hk; simp at this; omega) (fun k hk => by have := QB.out k hk; simp at this; omega) (G0.out.trans F1)⟩
  case rest =>
    obtain ⟨rfl, rfl, rfl, P, Q, hB, hD, hs1, hs2, hf⟩ := hcut
    have hl1 := cut_len ⟨c, a, l, n, ids⟩
    have hl2 := cut_len ⟨c', a', l', n', ids'⟩
    clear HB HD G0 KF1 KF2 HZ b0 b1 b2 b3 b4 f0 f1 f2 f3 f4 d0 d1 d2 d3 d4 g0 g1 g2 g3 g4
    generalize cut ⟨c, a, l, n, ids⟩ = R at *
    generalize cut ⟨c', a', l', n', ids'⟩ = S at *
    have G := Lib.hid hf
    have HB := Lib.hid hB
    have HD := Lib.hid hD
    have U := Lib.hid (show Rv wc (rv R P) R from ⟨P, rfl, hs1⟩)
    have V := Lib.hid (show Rv wc (rv S Q) S from ⟨Q, rfl, hs2⟩)
    obtain ⟨A1, c1, rfl⟩ := hs1.shape
    obtain ⟨A2, c2, rfl⟩ := hs2.shape
    clear hf hB hD hs1 hs2 hm hm'
    have KF := Lib.hid (fun W x (h : Rv W x R) => few_sl W R x hl1 h)
    obtain ⟨bs, hbs⟩ : ∃ bs : Bool, bs = true ↔ Eqr R S := by
      by_cases h : Eqr R S
      · exact ⟨true, by simp [h]⟩
      · exact ⟨false, by simp [h]⟩
    have HL1 := Lib.hid hl1
    have HL2 := Lib.hid hl2
    obtain ⟨b0, b1, b2, b3, b4, _⟩ := HB.out.c5
    obtain ⟨d0, d1, d2, d3, d4, _⟩ := HD.out.c5
    go_wp2_with fail
    refine (KF.out _ _ U.out).mono ?_
    rintro e w1 ⟨x1, rfl, hf, hx⟩
    have G1 := Lib.hid (G.out.trans hf)
    have HB1 := Lib.hid (HB.out.fr hf id)
    have HD1 := Lib.hid (HD.out.fr hf id)
    have U1 := Lib.hid (U.out.fr hf)
    have V1 := Lib.hid (V.out.fr hf)
    have X1 := Lib.hid hx
    obtain ⟨px, hpx, hsx⟩ := hx
    obtain ⟨A3, c3, rfl⟩ := hsx.shape
    unfold rv rc at hpx
    subst hpx
    obtain ⟨b0, b1, b2, b3, b4, _⟩ := HB1.out.c5
    obtain ⟨d0, d1, d2, d3, d4, _⟩ := HD1.out.c5
    clear hf hsx
    by_cases hg : GoodR R
    · have KE := Lib.hid (encode_ok w1 R _ hg (by omega) X1.out)
      go_wp2_with fail
      refine KE.out.mono ?_
      rintro e w2 ⟨y, rfl, hf, ho⟩
      have Y := Lib.hid (ho.sl EB_ok)
      obtain ⟨Ay, ky, rfl⟩ := (ho.sl EB_ok).shape
      clear ho
      have G2 := Lib.hid (G1.out.trans hf)
      have HB := Lib.hid (HB1.out.fr hf id)
      have HD := Lib.hid (HD1.out.fr hf id)
      have U := Lib.hid (U1.out.fr hf)
      have V := Lib.hid (V1.out.fr hf)
      have KFr := Lib.hid (fun W (h : Rv W (rv R (.slice A1 R.ids.length c1)) R) => few_sl W R _ HL1.out h)
      have KFs := Lib.hid (fun W (h : Rv W (rv S (.slice A2 S.ids.length c2)) S) => few_sl W S _ HL2.out h)
      have KGp := Lib.hid (fun W x (h : Rv W x R) => (goodP_any W R x (by have := HL1.out; omega) h).mono fun e w' hh => (show e = .returned (.bool true) ∧ Fr Nil W w' from ⟨tells_true hh.1 hg, hh.2⟩))
      have KGr := Lib.hid (fun W x (h : Rv W x R) => (goodR_any W R x (by have := HL1.out; omega) h).mono fun e w' hh => (show e = .returned (.bool true) ∧ Fr Nil W w' from ⟨tells_true hh.1 hg, hh.2⟩))
      have KSp := Lib.hid (fun W x y (h : Rv W x R) (h' : Rv W y S) => (sameP_any W R S x y (by have := HL1.out; omega) (by have := HL2.out; omega) h h').mono fun e w' hh => (show e = .returned (.bool bs) ∧ Fr Nil W w' from ⟨tells_is hh.1 hbs, hh.2⟩))
      have KSr := Lib.hid (fun W x y (h : Rv W x R) (h' : Rv W y S) => (sameR_any W R S x y (by have := HL1.out; omega) (by have := HL2.out; omega) h h').mono fun e w' hh => (show e = .returned (.bool bs) ∧ Fr Nil W w' from ⟨tells_is hh.1 hbs, hh.2⟩))
      have KU := Lib.hid (fun W => lives_true W)
      have s1 := Lib.hid True.intro
      have hbb : (bs != bs) = false := by cases bs <;> rfl
      unfold rv rc at *
      clear hf hbs hl1 hl2 KF KE X1 U1 V1 HB1 HD1 G1 G b0 b1 b2 b3 b4 d0 d1 d2 d3 d4
      have z0 : Fr Nil w2 w2.drew := (Fr.refl Nil w2).drew
      obtain ⟨b0, b1, b2, b3, b4, _⟩ := (HB.out.fr z0 id).c5
      obtain ⟨d0, d1, d2, d3, d4, _⟩ := (HD.out.fr z0 id).c5
      go_wp2_with fail
      go_region_held3 (fun w' => Fr Nil w2 w' ∧ w'.cell? ⟨w.heap.size, 0, none⟩ = some (.int .i64 R.c) ∧ w'.cell? ⟨w.heap.size, 1, none⟩ = some (.bool R.a) ∧ w'.cell? ⟨w.heap.size, 2, none⟩ = some (.bool R.l) ∧ w'.cell? ⟨w.heap.size, 3, none⟩ = some (.int .i64 R.n) ∧ w'.cell? ⟨w.heap.size, 4, none⟩ = some (.slice A1 R.ids.length c1) ∧ w'.cell? ⟨(w.heap.size + 1), 0, none⟩ = some (.int .i64 S.c) ∧ w'.cell? ⟨(w.heap.size + 1), 1, none⟩ = some (.bool S.a) ∧ w'.cell? ⟨(w.heap.size + 1), 2, none⟩ = some (.bool S.l) ∧ w'.cell? ⟨(w.heap.size + 1), 3, none⟩ = some (.int .i64 S.n) ∧ w'.cell? ⟨(w.heap.size + 1), 4, none⟩ = some (.slice A2 S.ids.length c2)) (first | exact ⟨z7, (HB.out.fr z7 id).cell 0, (HB.out.fr z7 id).cell 1, (HB.out.fr z7 id).cell 2, (HB.out.fr z7 id).cell 3, (HB.out.fr z7 id).cell 4, (HD.out.fr z7 id).cell 0, (HD.out.fr z7 id).cell 1, (HD.out.fr z7 id).cell 2, (HD.out.fr z7 id).cell 3, (HD.out.fr z7 id).cell 4⟩ | exact ⟨z6, (HB.out.fr z6 id).cell 0, (HB.out.fr z6 id).cell 1, (HB.out.fr z6 id).cell 2, (HB.out.fr z6 id).cell 3, (HB.out.fr z6 id).cell 4, (HD.out.fr z6 id).cell 0, (HD.out.fr z6 id).cell 1, (HD.out.fr z6 id).cell 2, (HD.out.fr z6 id).cell 3, (HD.out.fr z6 id).cell 4⟩ | exact ⟨z5, (HB.out.fr z5 id).cell 0, (HB.out.fr z5 id).cell 1, (HB.out.fr z5 id).cell 2, (HB.out.fr z5 id).cell 3, (HB.out.fr z5 id).cell 4, (HD.out.fr z5 id).cell 0, (HD.out.fr z5 id).cell 1, (HD.out.fr z5 id).cell 2, (HD.out.fr z5 id).cell 3, (HD.out.fr z5 id).cell 4⟩ | exact ⟨z4, (HB.out.fr z4 id).cell 0, (HB.out.fr z4 id).cell 1, (HB.out.fr z4 id).cell 2, (HB.out.fr z4 id).cell 3, (HB.out.fr z4 id).cell 4, (HD.out.fr z4 id).cell 0, (HD.out.fr z4 id).cell 1, (HD.out.fr z4 id).cell 2, (HD.out.fr z4 id).cell 3, (HD.out.fr z4 id).cell 4⟩ | exact ⟨z3, (HB.out.fr z3 id).cell 0, (HB.out.fr z3 id).cell 1, (HB.out.fr z3 id).cell 2, (HB.out.fr z3 id).cell 3, (HB.out.fr z3 id).cell 4, (HD.out.fr z3 id).cell 0, (HD.out.fr z3 id).cell 1, (HD.out.fr z3 id).cell 2, (HD.out.fr z3 id).cell 3, (HD.out.fr z3 id).cell 4⟩ | exact ⟨z2, (HB.out.fr z2 id).cell 0, (HB.out.fr z2 id).cell 1, (HB.out.fr z2 id).cell 2, (HB.out.fr z2 id).cell 3, (HB.out.fr z2 id).cell 4, (HD.out.fr z2 id).cell 0, (HD.out.fr z2 id).cell 1, (HD.out.fr z2 id).cell 2, (HD.out.fr z2 id).cell 3, (HD.out.fr z2 id).cell 4⟩ | exact ⟨z1, (HB.out.fr z1 id).cell 0, (HB.out.fr z1 id).cell 1, (HB.out.fr z1 id).cell 2, (HB.out.fr z1 id).cell 3, (HB.out.fr z1 id).cell 4, (HD.out.fr z1 id).cell 0, (HD.out.fr z1 id).cell 1, (HD.out.fr z1 id).cell 2, (HD.out.fr z1 id).cell 3, (HD.out.fr z1 id).cell 4⟩ | exact ⟨z0, (HB.out.fr z0 id).cell 0, (HB.out.fr z0 id).cell 1, (HB.out.fr z0 id).cell 2, (HB.out.fr z0 id).cell 3, (HB.out.fr z0 id).cell 4, (HD.out.fr z0 id).cell 0, (HD.out.fr z0 id).cell 1, (HD.out.fr z0 id).cell 2, (HD.out.fr z0 id).cell 3, (HD.out.fr z0 id).cell 4⟩)
        (first | (go_at_call 6; clear s1; (with_reducible refine Calls.mono (KFr.out _ (U.out.fr (by assumption))) ?_); rintro e wa ⟨ua, rfl, hfa, hra⟩; have z1 : Fr Nil w2 wa := Fr.trans (by assumption) hfa; have RA := Lib.hid hra; obtain ⟨pua, hpua, hsua⟩ := hra; obtain ⟨Aa, ka, rfl⟩ := hsua.shape; have hqua : ua = .agg #[.int .i64 R.c, .bool R.a, .bool R.l, .int .i64 R.n, .slice Aa R.ids.length ka] := hpua; subst hqua) | (go_at_call 13; have q1 := KGp.out _ _ RA.out; refine Calls.mono q1 ?_; rintro e wb ⟨rfl, hfb⟩; have z2 : Fr Nil w2 wb := Fr.trans (by assumption) hfb) | (go_at_call 8; (with_reducible refine Calls.mono (KGr.out _ _ (U.out.fr (by assumption))) ?_); rintro e wc ⟨rfl, hfc⟩; have z3 : Fr Nil w2 wc := Fr.trans (by assumption) hfc) | (go_at_call 6; (with_reducible refine Calls.mono (KFr.out _ (U.out.fr (by assumption))) ?_); rintro e wd ⟨ud, rfl, hfd, hrd⟩; have z4 : Fr Nil w2 wd := Fr.trans (by assumption) hfd; have RD := Lib.hid hrd; obtain ⟨pud, hpud, hsud⟩ := hrd; obtain ⟨Ad, kd, rfl⟩ := hsud.shape; have hqud : ud = .agg #[.int .i64 R.c, .bool R.a, .bool R.l, .int .i64 R.n, .slice Ad R.ids.length kd] := hpud; subst hqud) | (go_at_call 6; (with_reducible refine Calls.mono (KFs.out _ (V.out.fr (by assumption))) ?_); rintro e we ⟨ue, rfl, hfe, hre⟩; have z5 : Fr Nil w2 we := Fr.trans (by assumption) hfe; have RE := Lib.hid hre; obtain ⟨pue, hpue, hsue⟩ := hre; obtain ⟨Ae, ke, rfl⟩ := hsue.shape; have hque : ue = .agg #[.int .i64 S.c, .bool S.a, .bool S.l, .int .i64 S.n, .slice Ae S.ids.length ke] := hpue; subst hque) | (go_at_call 14; have q2 := KSp.out _ _ _ (RD.out.fr hfe) RE.out; refine Calls.mono q2 ?_; rintro e wf ⟨rfl, hff⟩; have z6 : Fr Nil w2 wf := Fr.trans (by assumption) hff) | (go_at_call 10; (with_reducible refine Calls.mono (KSr.out _ _ _ (U.out.fr (by assumption)) (V.out.fr (by assumption))) ?_); rintro e wg ⟨rfl, hfg⟩; have z7 : Fr Nil w2 wg := Fr.trans (by assumption) hfg))
      have HB7 := Lib.hid (HB.out.fr z7 id)
      obtain ⟨b0, b1, b2, b3, b4, _⟩ := HB7.out.c5
      have Z7 := Lib.hid z7
      clear z0 z1 z2 z3 z4 z5 z6 z7
      go_wp2_with fail
      refine (KGr.out _ _ (U.out.fr Z7.out)).mono ?_
      rintro e wh ⟨rfl, hfh⟩
      have ZH := Lib.hid (Z7.out.trans hfh)
      have HBh := Lib.hid (HB7.out.fr hfh id)
      clear hfh
      have hElen : (encR R).length ≤ 1000 := by have h1 := encR_len hg; have h2 := HL1.out; omega
      have HEl := Lib.hid hElen
      have HYc := Lib.hid (Y.out.fr ZH.out).come
      clear hElen
      go_wp2_with (at_builtin; refine wpList_app EB_ok rfl (.tmp 50) (.tmp 51) 29 rfl rfl wh.heap.size _ _ [] (encR R) rfl (Own.made (by simp) (by simp)) rfl (HYc.out.fr ((Fr.refl Nil wh).alloc _)) (by have := HEl.out; simp; omega) (by simp) ?_; intro v3 w3 o1 o2 o3 o4)
      have HF3 := Lib.hid (show Fr Nil wh w3 from ((Fr.refl Nil wh).alloc (.cells #[] 5)).then o2 (fun i hi hlt => by have := of_made hi; omega))
      have HO3 := Lib.hid (show Sl EB w3 v3 (encR R) from o1.sl EB_ok)
      clear o1 o2 o3 o4
      have KD := Lib.hid (decode_any w3 HEl.out (encR_bytes hg) HO3.out)
      obtain ⟨A9, c9, rfl⟩ := HO3.out.shape
      go_wp2_with fail
      refine KD.out.mono ?_
      rintro e w4 ⟨hd, hf4⟩
      have HF4 := Lib.hid (HF3.out.trans hf4)
      clear hf4 KD
      rcases hd with ⟨x, sx, hgx, hex, rfl, hsx⟩ | ⟨hno, _⟩
      · obtain rfl := encR_inj hgx hg hex
        obtain ⟨Ax, cx, rfl⟩ := hsx.shape
        have HT0 := Lib.hid (Bk.new w4 27 (rc x (.slice Ax x.ids.length cx)))
        have HA0 := Lib.hid ((Fr.refl Nil w4).alloc (.cells (rc x (.slice Ax x.ids.length cx)) 27))
        have HX := Lib.hid (show Rv (w4.alloc (.cells (rc x (.slice Ax x.ids.length cx)) 27)) (rv x (.slice Ax x.ids.length cx)) x from ⟨_, rfl, hsx.fr HA0.out⟩)
        have HB5 := Lib.hid (HBh.out.fr (HF4.out.trans HA0.out) id)
        have HU5 := Lib.hid (U.out.fr (ZH.out.trans (HF4.out.trans HA0.out)))
        have HY5 := Lib.hid ((Y.out.fr (ZH.out.trans (HF4.out.trans HA0.out))).come)
        have HGf := Lib.hid (G2.out.trans (ZH.out.trans (HF4.out.trans HA0.out)))
        have KE5 := Lib.hid (fun W (h : Rv W (rv x (.slice A1 x.ids.length c1)) x) => refenc_any W x _ hg (by have := HL1.out; omega) h)
        have KS5 := Lib.hid (fun W a b (h : Rv W a x) (h' : Rv W b x) => (sameR_any W x x a b (by have := HL1.out; omega) (by have := HL1.out; omega) h h').mono fun e w' hh => (show e = .returned (.bool true) ∧ Fr Nil W w' from ⟨tells_true hh.1 rfl, hh.2⟩))
        have hse := str_dec (encR_bytes hg) (encR_bytes hg)
        rw [decide_eq_true rfl] at hse
        have hlt4 := HBh.out.lt
        have hsz4 := HF4.out.size
        have hne4 : ¬ w4.heap.size = w.heap.size := by omega
        have hne4' : ¬ w.heap.size = w4.heap.size := by omega
        clear hsx hex hgx hg hbb KGp KGr KSp KSr KFr KFs HD V
        unfold rv rc at *
        go_wp2_with fail
        generalize w4.alloc (.cells #[.int .i64 x.c, .bool x.a, .bool x.l, .int .i64 x.n, .slice Ax x.ids.length cx] 27) = w5 at HT0 HX HB5 HU5 HY5 HGf ⊢
        have z0 : Fr Nil w5 w5.drew := (Fr.refl Nil w5).drew
        have hcv0 := ReplyE.conv_any w5.drew (HY5.out.fr z0)
        obtain ⟨t0, t1, t2, t3, t4, _⟩ := (HT0.out.fr z0 id).c5
        obtain ⟨b0, b1, b2, b3, b4, _⟩ := (HB5.out.fr z0 id).c5
        go_region_with (first | (go_at_call 12; have q1 := KE5.out _ (HU5.out.fr z0); refine Calls.mono q1 ?_; rintro e wa ⟨ua, rfl, hfa, hoa⟩; have za : Fr Nil w5 wa := z0.trans hfa; have hcva := ReplyE.conv_any wa (HY5.out.fr za); have hcvu := ReplyE.conv_any wa (hoa.sl EB_ok).come; obtain ⟨t0, t1, t2, t3, t4, _⟩ := (HT0.out.fr za id).c5; obtain ⟨b0, b1, b2, b3, b4, _⟩ := (HB5.out.fr za id).c5) | (go_at_call 10; have q2 := KS5.out _ _ _ (HX.out.fr za) (HU5.out.fr za); refine Calls.mono q2 ?_; rintro e wb ⟨rfl, hfb⟩; have zb : Fr Nil w5 wb := za.trans hfb) | (go_at_call 9; (with_reducible refine (KU.out _).mono ?_); rintro e wz ⟨rfl, hfz⟩; have zz : Fr Nil w5 wz := zb.trans hfz))
        all_goals
          go_wp2_with fail
          go_ret
          exact ⟨rfl, HGf.out.trans zz⟩
      · exact absurd rfl (hno R hg)
    · have KE := Lib.hid (encode_bad w1 R _ hg (by omega) X1.out)
      go_wp2_with fail
      refine KE.out.mono ?_
      rintro e w2 ⟨rfl, hf⟩
      have G2 := Lib.hid (G1.out.trans hf)
      have HB := Lib.hid (HB1.out.fr hf id)
      have HD := Lib.hid (HD1.out.fr hf id)
      have U := Lib.hid (U1.out.fr hf)
      have V := Lib.hid (V1.out.fr hf)
      have KFr := Lib.hid (fun W (h : Rv W (rv R (.slice A1 R.ids.length c1)) R) => few_sl W R _ HL1.out h)
      have KFs := Lib.hid (fun W (h : Rv W (rv S (.slice A2 S.ids.length c2)) S) => few_sl W S _ HL2.out h)
      have KGp := Lib.hid (fun W x (h : Rv W x R) => (goodP_any W R x (by have := HL1.out; omega) h).mono fun e w' hh => (show e = .returned (.bool false) ∧ Fr Nil W w' from ⟨tells_false hh.1 hg, hh.2⟩))
      have KGr := Lib.hid (fun W x (h : Rv W x R) => (goodR_any W R x (by have := HL1.out; omega) h).mono fun e w' hh => (show e = .returned (.bool false) ∧ Fr Nil W w' from ⟨tells_false hh.1 hg, hh.2⟩))
      have KSp := Lib.hid (fun W x y (h : Rv W x R) (h' : Rv W y S) => (sameP_any W R S x y (by have := HL1.out; omega) (by have := HL2.out; omega) h h').mono fun e w' hh => (show e = .returned (.bool bs) ∧ Fr Nil W w' from ⟨tells_is hh.1 hbs, hh.2⟩))
      have KSr := Lib.hid (fun W x y (h : Rv W x R) (h' : Rv W y S) => (sameR_any W R S x y (by have := HL1.out; omega) (by have := HL2.out; omega) h h').mono fun e w' hh => (show e = .returned (.bool bs) ∧ Fr Nil W w' from ⟨tells_is hh.1 hbs, hh.2⟩))
      have KU := Lib.hid (fun W => lives_true W)
      have s1 := Lib.hid True.intro
      have hbb : (bs != bs) = false := by cases bs <;> rfl
      unfold rv rc at *
      clear hf hbs hl1 hl2 KF KE X1 U1 V1 HB1 HD1 G1 G b0 b1 b2 b3 b4 d0 d1 d2 d3 d4
      have z0 : Fr Nil w2 w2.drew := (Fr.refl Nil w2).drew
      obtain ⟨b0, b1, b2, b3, b4, _⟩ := (HB.out.fr z0 id).c5
      obtain ⟨d0, d1, d2, d3, d4, _⟩ := (HD.out.fr z0 id).c5
      go_wp2_with fail
      go_region_held3 (fun w' => Fr Nil w2 w' ∧ w'.cell? ⟨w.heap.size, 0, none⟩ = some (.int .i64 R.c) ∧ w'.cell? ⟨w.heap.size, 1, none⟩ = some (.bool R.a) ∧ w'.cell? ⟨w.heap.size, 2, none⟩ = some (.bool R.l) ∧ w'.cell? ⟨w.heap.size, 3, none⟩ = some (.int .i64 R.n) ∧ w'.cell? ⟨w.heap.size, 4, none⟩ = some (.slice A1 R.ids.length c1) ∧ w'.cell? ⟨(w.heap.size + 1), 0, none⟩ = some (.int .i64 S.c) ∧ w'.cell? ⟨(w.heap.size + 1), 1, none⟩ = some (.bool S.a) ∧ w'.cell? ⟨(w.heap.size + 1), 2, none⟩ = some (.bool S.l) ∧ w'.cell? ⟨(w.heap.size + 1), 3, none⟩ = some (.int .i64 S.n) ∧ w'.cell? ⟨(w.heap.size + 1), 4, none⟩ = some (.slice A2 S.ids.length c2)) (first | exact ⟨z7, (HB.out.fr z7 id).cell 0, (HB.out.fr z7 id).cell 1, (HB.out.fr z7 id).cell 2, (HB.out.fr z7 id).cell 3, (HB.out.fr z7 id).cell 4, (HD.out.fr z7 id).cell 0, (HD.out.fr z7 id).cell 1, (HD.out.fr z7 id).cell 2, (HD.out.fr z7 id).cell 3, (HD.out.fr z7 id).cell 4⟩ | exact ⟨z6, (HB.out.fr z6 id).cell 0, (HB.out.fr z6 id).cell 1, (HB.out.fr z6 id).cell 2, (HB.out.fr z6 id).cell 3, (HB.out.fr z6 id).cell 4, (HD.out.fr z6 id).cell 0, (HD.out.fr z6 id).cell 1, (HD.out.fr z6 id).cell 2, (HD.out.fr z6 id).cell 3, (HD.out.fr z6 id).cell 4⟩ | exact ⟨z5, (HB.out.fr z5 id).cell 0, (HB.out.fr z5 id).cell 1, (HB.out.fr z5 id).cell 2, (HB.out.fr z5 id).cell 3, (HB.out.fr z5 id).cell 4, (HD.out.fr z5 id).cell 0, (HD.out.fr z5 id).cell 1, (HD.out.fr z5 id).cell 2, (HD.out.fr z5 id).cell 3, (HD.out.fr z5 id).cell 4⟩ | exact ⟨z4, (HB.out.fr z4 id).cell 0, (HB.out.fr z4 id).cell 1, (HB.out.fr z4 id).cell 2, (HB.out.fr z4 id).cell 3, (HB.out.fr z4 id).cell 4, (HD.out.fr z4 id).cell 0, (HD.out.fr z4 id).cell 1, (HD.out.fr z4 id).cell 2, (HD.out.fr z4 id).cell 3, (HD.out.fr z4 id).cell 4⟩ | exact ⟨z3, (HB.out.fr z3 id).cell 0, (HB.out.fr z3 id).cell 1, (HB.out.fr z3 id).cell 2, (HB.out.fr z3 id).cell 3, (HB.out.fr z3 id).cell 4, (HD.out.fr z3 id).cell 0, (HD.out.fr z3 id).cell 1, (HD.out.fr z3 id).cell 2, (HD.out.fr z3 id).cell 3, (HD.out.fr z3 id).cell 4⟩ | exact ⟨z2, (HB.out.fr z2 id).cell 0, (HB.out.fr z2 id).cell 1, (HB.out.fr z2 id).cell 2, (HB.out.fr z2 id).cell 3, (HB.out.fr z2 id).cell 4, (HD.out.fr z2 id).cell 0, (HD.out.fr z2 id).cell 1, (HD.out.fr z2 id).cell 2, (HD.out.fr z2 id).cell 3, (HD.out.fr z2 id).cell 4⟩ | exact ⟨z1, (HB.out.fr z1 id).cell 0, (HB.out.fr z1 id).cell 1, (HB.out.fr z1 id).cell 2, (HB.out.fr z1 id).cell 3, (HB.out.fr z1 id).cell 4, (HD.out.fr z1 id).cell 0, (HD.out.fr z1 id).cell 1, (HD.out.fr z1 id).cell 2, (HD.out.fr z1 id).cell 3, (HD.out.fr z1 id).cell 4⟩ | exact ⟨z0, (HB.out.fr z0 id).cell 0, (HB.out.fr z0 id).cell 1, (HB.out.fr z0 id).cell 2, (HB.out.fr z0 id).cell 3, (HB.out.fr z0 id).cell 4, (HD.out.fr z0 id).cell 0, (HD.out.fr z0 id).cell 1, (HD.out.fr z0 id).cell 2, (HD.out.fr z0 id).cell 3, (HD.out.fr z0 id).cell 4⟩)
        (first | (go_at_call 6; clear s1; (with_reducible refine Calls.mono (KFr.out _ (U.out.fr (by assumption))) ?_); rintro e wa ⟨ua, rfl, hfa, hra⟩; have z1 : Fr Nil w2 wa := Fr.trans (by assumption) hfa; have RA := Lib.hid hra; obtain ⟨pua, hpua, hsua⟩ := hra; obtain ⟨Aa, ka, rfl⟩ := hsua.shape; have hqua : ua = .agg #[.int .i64 R.c, .bool R.a, .bool R.l, .int .i64 R.n, .slice Aa R.ids.length ka] := hpua; subst hqua) | (go_at_call 13; have q1 := KGp.out _ _ RA.out; refine Calls.mono q1 ?_; rintro e wb ⟨rfl, hfb⟩; have z2 : Fr Nil w2 wb := Fr.trans (by assumption) hfb) | (go_at_call 8; (with_reducible refine Calls.mono (KGr.out _ _ (U.out.fr (by assumption))) ?_); rintro e wc ⟨rfl, hfc⟩; have z3 : Fr Nil w2 wc := Fr.trans (by assumption) hfc) | (go_at_call 6; (with_reducible refine Calls.mono (KFr.out _ (U.out.fr (by assumption))) ?_); rintro e wd ⟨ud, rfl, hfd, hrd⟩; have z4 : Fr Nil w2 wd := Fr.trans (by assumption) hfd; have RD := Lib.hid hrd; obtain ⟨pud, hpud, hsud⟩ := hrd; obtain ⟨Ad, kd, rfl⟩ := hsud.shape; have hqud : ud = .agg #[.int .i64 R.c, .bool R.a, .bool R.l, .int .i64 R.n, .slice Ad R.ids.length kd] := hpud; subst hqud) | (go_at_call 6; (with_reducible refine Calls.mono (KFs.out _ (V.out.fr (by assumption))) ?_); rintro e we ⟨ue, rfl, hfe, hre⟩; have z5 : Fr Nil w2 we := Fr.trans (by assumption) hfe; have RE := Lib.hid hre; obtain ⟨pue, hpue, hsue⟩ := hre; obtain ⟨Ae, ke, rfl⟩ := hsue.shape; have hque : ue = .agg #[.int .i64 S.c, .bool S.a, .bool S.l, .int .i64 S.n, .slice Ae S.ids.length ke] := hpue; subst hque) | (go_at_call 14; have q2 := KSp.out _ _ _ (RD.out.fr hfe) RE.out; refine Calls.mono q2 ?_; rintro e wf ⟨rfl, hff⟩; have z6 : Fr Nil w2 wf := Fr.trans (by assumption) hff) | (go_at_call 10; (with_reducible refine Calls.mono (KSr.out _ _ _ (U.out.fr (by assumption)) (V.out.fr (by assumption))) ?_); rintro e wg ⟨rfl, hfg⟩; have z7 : Fr Nil w2 wg := Fr.trans (by assumption) hfg))
      have HB7 := Lib.hid (HB.out.fr z7 id)
      obtain ⟨b0, b1, b2, b3, b4, _⟩ := HB7.out.c5
      have Z7 := Lib.hid z7
      clear z0 z1 z2 z3 z4 z5 z6 z7
      go_wp2_with fail
      refine (KGr.out _ _ (U.out.fr Z7.out)).mono ?_
      rintro e wh ⟨rfl, hfh⟩
      have ZH := Lib.hid (Z7.out.trans hfh)
      have HBh := Lib.hid (HB7.out.fr hfh id)
      clear hfh
      go_wp2_with fail
      refine (KU.out _).mono ?_
      rintro e wi ⟨rfl, hfi⟩
      have ZI := Lib.hid (ZH.out.trans hfi)
      clear hfi
      go_wp2_with fail
      go_ret
      exact ⟨rfl, G2.out.trans ZI.out⟩
end Go.Proofs.Ytfkjonpbopoiaaa.ReplyR
