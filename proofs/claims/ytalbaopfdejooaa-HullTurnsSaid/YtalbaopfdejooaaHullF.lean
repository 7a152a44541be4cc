/- Chapter 41: the walks of by, merge, sort, Sort of points. -/
import Derived.Test.YtalbaopfdejooaaHullE
namespace Go.Proofs.Ytalbaopfdejooaa.HullF
open Go.RowKit Base Slices RowsA KernA AreaA HullD HullE Quiet
set_option linter.unusedVariables false
set_option linter.unusedSimpArgs false

theorem by_none (w : World) : Calls Try.prog 80 #[.slice none 0 0, lessV] w fun e w' => e = .returned (.slice none 0 0) ∧ Fr Nil w w' := by
  unfold lessV
  have K := Lib.hid (fun W => clone_none W)
  go_enter Try.func80, Try.ntmps80
  go_wp2_with fail
  refine (K.out _).mono ?_
  rintro e w1 ⟨rfl, hf1⟩
  go_wp2_with fail
  refine wp_loop_rounds 1 ?_
  rw [rounds_succ]
  go_wp2
  go_ret
  exact ⟨rfl, hf1⟩

set_option maxRecDepth 100000 in
set_option maxHeartbeats 4000000 in
theorem by_some (l : List Pn) (g0 o0 cap0 : Nat) (w : World) (hl : l.length ≤ 1000) (hv : Sl EPt w (.slice (some ⟨g0, o0, none⟩) l.length cap0) l) :
    Calls Try.prog 80 #[.slice (some ⟨g0, o0, none⟩) l.length cap0, lessV] w fun e w' => ∃ u, e = .returned u ∧ Fr Nil w w' ∧ Sl EPt w' u (srt l) := by
  unfold lessV
  have K := Lib.hid (clone_some l g0 o0 cap0 w (by omega) hv)
  clear hv
  go_enter Try.func80, Try.ntmps80
  go_wp2_with fail
  refine K.out.mono ?_
  rintro e w1 ⟨u, rfl, hf1, ho, hn⟩
  obtain ⟨g, cap, rfl, hc, hm⟩ := Mine.of_own ho hf1 hn
  clear ho hn hf1 K
  go_wp2_with fail
  go_loopw [12] (fun i wr => ∃ j : Nat, j ≤ l.length ∧ i = .int .i64 j ∧ Mine w g (srt (l.take j) ++ l.drop j) wr) (fun i _ => l.length - (intOf i).toNat)
  case atStart => exact ⟨0, by omega, rfl, by simpa [srt] using hm⟩
  case round =>
    obtain ⟨j, hj, rfl, hmr⟩ := hrel
    by_cases hlt : j < l.length
    · obtain ⟨x, hx⟩ : ∃ x, l[j]? = some x := ⟨l[j], List.getElem?_eq_getElem hlt⟩
      have HG := Lib.hid (Going.start hx)
      have HX := Lib.hid hx
      have HM := Lib.hid hmr
      clear hm hmr hx
      go_wp2_with fail
      go_loopw [7] (fun i wk => ∃ (k : Nat) (L : List Pn), k ≤ j ∧ i = .int .i64 k ∧ Going l j x k L ∧ Mine w g L wk) (fun i _ => (intOf i).toNat)
      case atStart => exact ⟨j, _, Nat.le_refl _, rfl, HG.out, HM.out⟩
      case round =>
        obtain ⟨k, L, hk, rfl, hg, hmk⟩ := hrel
        have e1 : srt (l.take (j + 1)) = srt (l.take j ++ [x]) := by
          obtain ⟨h1, h2⟩ := List.getElem?_eq_some_iff.1 HX.out
          rw [List.take_succ_eq_append_getElem h1, h2]
        have E1 := Lib.hid e1
        clear e1
        rcases Nat.eq_zero_or_pos k with rfl | hpos
        · have HL := Lib.hid (show L = srt (l.take (j + 1)) ++ l.drop (j + 1) by rw [E1.out]; exact hg.zero)
          have HK := Lib.hid hmk
          clear hg hmk
          go_wp2_with fail
          go_quiet (fail)
          go_wp2_with fail
          go_roundw
          case rel => exact ⟨j + 1, by omega, by go_num, by rw [← HL.out]; exact HK.out.drewN _⟩
          case measure => simp [intOf]; omega
        · obtain ⟨k, rfl⟩ : ∃ k', k = k' + 1 := ⟨k - 1, by omega⟩
          have hlen := hg.len hlt
          obtain ⟨y, A, C, hA, rfl, hyes, hno⟩ := hg.step
          have ly : (A ++ y :: x :: C)[k]? = some y := by rw [← hA]; simp
          have lx : (A ++ y :: x :: C)[k + 1]? = some x := by rw [← hA]; simp
          obtain ⟨cy0, cy1, cy2⟩ := Mine.at_ hmk ly
          obtain ⟨cx0, cx1, cx2⟩ := Mine.at_ hmk lx
          have hgl := hmk.lt
          have HY := Lib.hid hyes
          have HN := Lib.hid hno
          have HK := Lib.hid hmk
          have HL := Lib.hid hlen
          have q1 := fun (p : FrW Nil wr) => (p.fr.cell (p := ⟨g, k * 3, none⟩) hgl id).trans cy0
          have q2 := fun (p : FrW Nil wr) => (p.fr.cell (p := ⟨g, k * 3 + 1, none⟩) hgl id).trans cy1
          have q3 := fun (p : FrW Nil wr) => (p.fr.cell (p := ⟨g, (k + 1) * 3, none⟩) hgl id).trans cx0
          have q4 := fun (p : FrW Nil wr) => (p.fr.cell (p := ⟨g, (k + 1) * 3 + 1, none⟩) hgl id).trans cx1
          have q5 := fun (p : FrW Nil wr) => (p.fr.cell (p := ⟨g, k * 3 + 2, none⟩) hgl id).trans cy2
          have q6 := fun (p : FrW Nil wr) => (p.fr.cell (p := ⟨g, (k + 1) * 3 + 2, none⟩) hgl id).trans cx2
          have LS := Lib.hid (fun W => less_any x y W)
          have b1 : (k : Int) + 1 < l.length := by omega
          have b2 : (k : Int) < l.length := by omega
          have b0 : (0 : Int) ≤ k := by omega
          clear hyes hno hmk hlen hg ly lx
          go_wp2_with fail
          refine wp_region_quiet_fr Nil (by kernel_rfl) (by kernel_rfl) ?_
          repeat (go_big_quiet_step (first
            | (go_at_call 43; with_reducible exact quiet_call (LS.out _))))
          refine wpQuiet_nil ?_
          intro w2 hw'
          obtain ⟨⟨wq, hfq⟩, hw''⟩ := hw'
          subst hw''
          have hm2 := HK.out.keep hfq
          clear q1 q2 q3 q4 q5 q6 cy0 cy1 cy2 cx0 cx1 cx2 hgl HK hfq LS
          rcases Bool.eq_false_or_eq_true (ltB x y) with hxy | hxy <;> rw [hxy]
          · have ly : (A ++ y :: x :: C)[k]? = some y := by rw [← hA]; simp
            have lx : (A ++ y :: x :: C)[k + 1]? = some x := by rw [← hA]; simp
            obtain ⟨cy0, cy1, cy2⟩ := Mine.at_ hm2 ly
            obtain ⟨cx0, cx1, cx2⟩ := Mine.at_ hm2 lx
            have fy0 := hm2.froz (k * 3)
            have fy1 := hm2.froz (k * 3 + 1)
            have fy2 := hm2.froz (k * 3 + 2)
            have fx0 := hm2.froz ((k + 1) * 3)
            have fx1 := hm2.froz ((k + 1) * 3 + 1)
            have fx2 := hm2.froz ((k + 1) * 3 + 2)
            have hgl := hm2.lt
            have HK := Lib.hid hm2
            have HXY := Lib.hid (HY.out hxy)
            clear hm2 ly lx
            go_wp2_with fail
            go_region
            have hM : Mine w g (A ++ x :: y :: C) ((st (st w2 g (k + 1) y) g k x).drew) := by
              have h1 := Mine.st (Mine.st HK.out (i := k + 1) (by simp; omega) y) (i := k) (by simp; omega) x
              have e := swap1 A C x y
              rw [hA] at e
              rw [e] at h1
              exact h1.drew
            unfold st at hM
            clear cy0 cy1 cy2 cx0 cx1 cx2 fy0 fy1 fy2 fx0 fx1 fx2 hgl
            generalize (World.drew _) = w3 at hM ⊢
            have HM3 := Lib.hid hM
            clear hM
            go_wp2_with fail
            go_roundw
            case rel => exact ⟨k, _, by omega, by go_num, HXY.out, HM3.out⟩
            case measure => simp [intOf]
          · replace hxy : ltB x y = false := by simpa using hxy
            have HE := Lib.hid (HN.out hxy)
            have HK := Lib.hid hm2
            clear hm2
            go_wp2_with fail
            go_roundw
            case rel => exact ⟨j + 1, by omega, by go_num, by rw [E1.out, ← HE.out]; exact HK.out⟩
            case measure => simp [intOf]; omega
    · obtain rfl : j = l.length := by omega
      have HM := Lib.hid hmr
      clear hm hmr
      go_wp2_with fail
      go_ret
      exact ⟨_, rfl, HM.out.fr, by have h := HM.out; simp at h; exact Mine.sl h (by rw [srt_len]; exact hc) _ (by rw [srt_len])⟩
def lenV : Value → Nat
  | .slice _ n _ => n
  | _ => 0

theorem sl_lenV {w : World} {v : Value} {l : List Pn} (h : Sl EPt w v l) : HullF.lenV v = l.length := by
  rcases h with ⟨rfl, rfl⟩ | ⟨g, o, cap, rfl, _⟩ <;> rfl

theorem make_out (n : Nat) (hn : n ≤ 100000) (W : World) : (Instr.makeSlice 22 (.int .i64 0) (.int .i64 (n : Int))).run Try.prog W = .ok (.slice (some ⟨W.heap.size, 0, none⟩) 0 n) (W.alloc (.cells (madeCells (Value.agg #[.int .i64 0, .int .i64 0, .int .i64 0]).cells (n * 3)) 34)) := by
  obtain ⟨i0, hi, hz0, hz1, hz2⟩ := info_parts info_pt
  have h := run_make (P := Try.prog) W 22 34 i0 _ Try.underlying22 hi hz0 .i64 .i64 0 n (by omega) (by omega) (by rw [hz2]; omega) (by omega)
  rw [hz1] at h
  simpa using h

theorem tail_sl {w : World} {g o cap : Nat} {l : List Pn} (k : Nat) (hc : l.length ≤ cap) (hk : k ≤ l.length) (ha : g < w.heap.size) (hr : Row EPt w g o l) : Sl EPt w (.slice (if cap = k then some ⟨g, o, none⟩ else some ⟨g, o + k * 3, none⟩) (l.length - k) (cap - k)) (l.drop k) := by
  have hld : (l.drop k).length = l.length - k := by rw [List.length_drop]
  split
  · next e =>
    have : l.drop k = [] := List.drop_of_length_le (by omega)
    exact Or.inr ⟨g, o, cap - k, by rw [hld], by omega, ha, by rw [this]; exact fun j u h => by simp [flat] at h⟩
  · exact Or.inr ⟨g, o + k * 3, cap - k, by rw [hld], by omega, ha, Row.drop EPt_ok hr k⟩
theorem head_sl {w : World} {g o cap : Nat} {l : List Pn} (k : Nat) (hc : l.length ≤ cap) (hk : k ≤ l.length) (ha : g < w.heap.size) (hr : Row EPt w g o l) : Sl EPt w (.slice (some ⟨g, o, none⟩) k cap) (l.take k) := by
  have hlt : (l.take k).length = k := by rw [List.length_take]; omega
  exact Or.inr ⟨g, o, cap, by rw [hlt], by omega, ha, Row.take EPt_ok hr k⟩
theorem one_sl' {w : World} {g : Nat} (p : Pn) (hg : g = w.heap.size) : Sl EPt (w.alloc (.cells #[.int .i64 p.1, .int .i64 p.2.1, .int .i64 p.2.2] 34)) (.slice (some ⟨g, 0, none⟩) 1 1) [p] := lit_sl EPt_ok [p] rfl hg _
theorem tail1 {w : World} {g o cap : Nat} {x : Pn} {l : List Pn} (hc : (x :: l).length ≤ cap) (ha : g < w.heap.size) (hr : Row EPt w g o (x :: l)) : Sl EPt w (.slice (if cap = 1 then some ⟨g, o, none⟩ else some ⟨g, o + 3, none⟩) l.length (cap - 1)) l := by
  have h := tail_sl (l := x :: l) 1 hc (by simp) ha hr
  simpa using h

set_option maxRecDepth 100000 in
set_option maxHeartbeats 8000000 in
theorem merge_any (a b : List Pn) (va vb : Value) (w : World) (hla : a.length ≤ 1000) (hlb : b.length ≤ 1000) (hva : Sl EPt w va a) (hvb : Sl EPt w vb b) :
    Calls Try.prog 81 #[va, vb, lessV] w fun e w' => ∃ u, e = .returned u ∧ Fr Nil w w' ∧ Own EPt w' w.heap.size u (mrg a b) ∧ u ≠ .slice none 0 0 := by
  unfold lessV
  obtain ⟨A0, c0, rfl⟩ := Sl.shape hva
  obtain ⟨B0, d0, rfl⟩ := Sl.shape hvb
  have hmk := fun W => make_out (a.length + b.length) (by omega) W
  rw [show ((a.length + b.length : Nat) : Int) = (a.length : Int) + b.length by omega] at hmk
  have HA := Lib.hid hva
  have HB := Lib.hid hvb
  clear hva hvb
  go_enter Try.func81, Try.ntmps81
  go_wp2_with fail
  clear hmk
  have O0 : Own EPt (w.alloc (.cells (madeCells (Value.agg #[.int .i64 0, .int .i64 0, .int .i64 0]).cells ((a.length + b.length) * 3)) 34)) w.heap.size (.slice (some ⟨w.heap.size, 0, none⟩) 0 (a.length + b.length)) [] := World.ownsRow_made _ _ _ (Nat.le_refl _) (by unfold maxLen; omega) (size_madeCells _ _)
  have F0 : Fr Nil w (w.alloc (.cells (madeCells (Value.agg #[.int .i64 0, .int .i64 0, .int .i64 0]).cells ((a.length + b.length) * 3)) 34)) := by (repeat' (with_reducible first | refine Fr.setCell ?_ (fun hlt => absurd hlt (by dsimp only; omega)) _ | refine Fr.alloc ?_ _ | refine Fr.drewN ?_ _ | refine Fr.drew ?_ | exact Fr.refl _ _))
  go_loopw [0, 1, 7] (fun xa xb xo wr => ∃ sa sb so, Sl EPt w xa sa ∧ Sl EPt w xb sb ∧ Own EPt wr w.heap.size xo so ∧ so ++ mrg sa sb = mrg a b ∧ sa.length ≤ 1000 ∧ sb.length ≤ 1000 ∧ so.length + sa.length + sb.length ≤ 2000 ∧ xo ≠ .slice none 0 0 ∧ Fr Nil w wr) (fun xa xb _ _ => lenV xa + lenV xb)
  case atStart => exact ⟨a, b, [], HA.out, HB.out, by simpa [Value.cells] using O0, by simp, hla, hlb, by simp; omega, by simp, by simpa [Value.cells] using F0⟩
  case round =>
    clear O0 F0
    obtain ⟨sa, sb, so, hsa, hsb, hso, he, hl1, hl2, hl3, hn, hf⟩ := hrel
    have LA := Lib.hid (sl_lenV hsa)
    have LB := Lib.hid (sl_lenV hsb)
    have HE := Lib.hid he
    have HS := Lib.hid hso
    have HN := Lib.hid hn
    have HF := Lib.hid hf
    have KA := Lib.hid hsa
    have KB := Lib.hid hsb
    have hcase : (sa ≠ [] ∧ sb ≠ []) ∨ (sa = [] ∨ sb = []) := by cases sa <;> cases sb <;> simp
    rcases hcase with ⟨h1, h2⟩ | hend
    · rcases hsa with ⟨rfl, rfl⟩ | ⟨ga, oa, ca, rfl, hca, hga, hra⟩
      · exact absurd rfl h1
      rcases hsb with ⟨rfl, rfl⟩ | ⟨gb, ob, cb, rfl, hcb, hgb, hrb⟩
      · exact absurd rfl h2
      obtain ⟨x, sa, rfl⟩ := List.exists_cons_of_ne_nil h1
      obtain ⟨y, sb, rfl⟩ := List.exists_cons_of_ne_nil h2
      obtain ⟨x0, x1, x2⟩ := pt_at (hra.fr hf hga id) (i := 0) (p := x) rfl
      obtain ⟨y0, y1, y2⟩ := pt_at (hrb.fr hf hgb id) (i := 0) (p := y) rfl
      rw [Nat.zero_mul, Nat.add_zero] at x0 x1 x2 y0 y1 y2
      have lga : ga < wr.heap.size := Nat.lt_of_lt_of_le hga hf.size
      have lgb : gb < wr.heap.size := Nat.lt_of_lt_of_le hgb hf.size
      have TA := Lib.hid (tail1 hca hga hra)
      have TB := Lib.hid (tail1 hcb hgb hrb)
      have q1 := fun (p : FrW Nil wr) => (p.fr.cell (p := ⟨ga, oa, none⟩) lga id).trans x0
      have q2 := fun (p : FrW Nil wr) => (p.fr.cell (p := ⟨ga, oa + 1, none⟩) lga id).trans x1
      have q3 := fun (p : FrW Nil wr) => (p.fr.cell (p := ⟨gb, ob, none⟩) lgb id).trans y0
      have q4 := fun (p : FrW Nil wr) => (p.fr.cell (p := ⟨gb, ob + 1, none⟩) lgb id).trans y1
      have q5 := fun (p : FrW Nil wr) => (p.fr.cell (p := ⟨ga, oa + 2, none⟩) lga id).trans x2
      have q6 := fun (p : FrW Nil wr) => (p.fr.cell (p := ⟨gb, ob + 2, none⟩) lgb id).trans y2
      obtain ⟨x0', x1', x2'⟩ := pt_at hra (i := 0) (p := x) rfl
      obtain ⟨y0', y1', y2'⟩ := pt_at hrb (i := 0) (p := y) rfl
      rw [Nat.zero_mul, Nat.add_zero] at x0' x1' x2' y0' y1' y2'
      have C := Lib.hid (fun (W : World) (h : Fr Nil w W) => And.intro (And.intro ((h.cell (p := ⟨ga, oa, none⟩) hga id).trans x0') (And.intro ((h.cell (p := ⟨ga, oa + 1, none⟩) hga id).trans x1') ((h.cell (p := ⟨ga, oa + 2, none⟩) hga id).trans x2'))) (And.intro ((h.cell (p := ⟨gb, ob, none⟩) hgb id).trans y0') (And.intro ((h.cell (p := ⟨gb, ob + 1, none⟩) hgb id).trans y1') ((h.cell (p := ⟨gb, ob + 2, none⟩) hgb id).trans y2'))))
      clear x0' x1' x2' y0' y1' y2'
      have SZ := Lib.hid (And.intro hl1 (And.intro hl2 hl3))
      have CA := Lib.hid hca
      have CB := Lib.hid hcb
      have LS := Lib.hid (fun W => less_any y x W)
      have n1 : (0 : Int) < ((x :: sa).length : Nat) := by simp <;> omega
      have n2 : (0 : Int) < ((y :: sb).length : Nat) := by simp <;> omega
      have n3 : (1 : Int) ≤ ca := by simp at hca; omega
      have n4 : (1 : Int) ≤ cb := by simp at hcb; omega
      have n5 : (1 : Int) ≤ (sa.length : Int) + 1 := by omega
      have n6 : (1 : Int) ≤ (sb.length : Int) + 1 := by omega
      have n7 : (sa.length : Int) + 1 ≤ ca := by simp at hca; omega
      have n8 : (sb.length : Int) + 1 ≤ cb := by simp at hcb; omega
      clear x0 x1 x2 y0 y1 y2 hca hcb hra hrb hga hgb h1 h2 hl1 hl2 hl3 hso he hn hf
      simp only [List.length_cons, Int.natCast_add] at n1 n2
      go_wp2_with fail
      refine wp_region_quiet_fr Nil (by kernel_rfl) (by kernel_rfl) ?_
      repeat (go_big_quiet_step (first
        | (go_at_call 43; with_reducible exact quiet_call (LS.out _))))
      refine wpQuiet_nil ?_
      intro w2 hw'
      obtain ⟨⟨wq, hfq⟩, hw''⟩ := hw'
      subst hw''
      have O2 := Lib.hid (HS.out.fr hfq (fun _ _ h => h))
      have F2 := Lib.hid hfq
      have hB2 : w.heap.size ≤ w2.heap.size := (HF.out.trans hfq).size
      clear q1 q2 q3 q4 q5 q6 lga lgb
      rcases Bool.eq_false_or_eq_true (ltB y x) with hxy | hxy <;> rw [hxy]
      · obtain ⟨_, p2, p3, p4⟩ := C.out w2 (HF.out.trans hfq)
        have HM := Lib.hid (merge_left so x y sa sb hxy)
        clear hfq
        go_wp2_with fail
        go_region_held3 (fun w' => w'.cell? ⟨gb, ob, none⟩ = some (.int .i64 y.1) ∧ w'.cell? ⟨gb, ob + 1, none⟩ = some (.int .i64 y.2.1) ∧ w'.cell? ⟨gb, ob + 2, none⟩ = some (.int .i64 y.2.2)) (first | (go_keep; done))
          (first | (rw [if_pos (by rfl)]; refine Slices.wp_app EPt_ok (.tmp 30) (.tmp 34) 22 rfl rfl w.heap.size _ _ so [y] rfl (O2.out.alloc _) rfl (one_sl' y rfl).come (by have := SZ.out; simp at this ⊢; omega) (by simp; omega) ?_; intro v3 w3 h3 f3 b3 m3; have F3 : Fr Nil w w3 := Fr.then (((HF.out.trans F2.out).drew).alloc _) f3 (fun i hi hlt => by have := (O2.out.lt i hi).1; omega); obtain ⟨_, z2, z3, z4⟩ := C.out w3 F3))
        generalize (Value.slice (if cb = 1 then some ⟨gb, ob, none⟩ else some ⟨gb, ob + 3, none⟩) sb.length (cb - 1)) = tb at TB ⊢
        have M3 := Lib.hid m3
        clear m3
        go_wp2_with fail
        go_roundw
        case rel => exact ⟨x :: sa, sb, so ++ [y], KA.out, TB.out, h3, by rw [← HM.out]; exact HE.out, by have := SZ.out; simp at this ⊢; omega, by have := SZ.out; simp at this ⊢; omega, by have := SZ.out; simp at this ⊢; omega, fun e => HN.out (M3.out e), F3⟩
        case measure => have h := sl_lenV TB.out; rw [h]; simp [lenV]
      · replace hxy : ltB y x = false := by simpa using hxy
        obtain ⟨⟨p2, p3, p4⟩, _⟩ := C.out w2 (HF.out.trans hfq)
        have HM := Lib.hid (merge_right so x y sa sb (by simpa using hxy))
        clear hfq
        go_wp2_with fail
        go_region_held3 (fun w' => w'.cell? ⟨ga, oa, none⟩ = some (.int .i64 x.1) ∧ w'.cell? ⟨ga, oa + 1, none⟩ = some (.int .i64 x.2.1) ∧ w'.cell? ⟨ga, oa + 2, none⟩ = some (.int .i64 x.2.2)) (first | (go_keep; done))
          (first | (rw [if_pos (by rfl)]; refine Slices.wp_app EPt_ok (.tmp 38) (.tmp 42) 22 rfl rfl w.heap.size _ _ so [x] rfl (O2.out.alloc _) rfl (one_sl' x rfl).come (by have := SZ.out; simp at this ⊢; omega) (by simp; omega) ?_; intro v3 w3 h3 f3 b3 m3; have F3 : Fr Nil w w3 := Fr.then (((HF.out.trans F2.out).drew).alloc _) f3 (fun i hi hlt => by have := (O2.out.lt i hi).1; omega); obtain ⟨⟨z2, z3, z4⟩, _⟩ := C.out w3 F3))
        generalize (Value.slice (if ca = 1 then some ⟨ga, oa, none⟩ else some ⟨ga, oa + 3, none⟩) sa.length (ca - 1)) = ta at TA ⊢
        have M3 := Lib.hid m3
        clear m3
        go_wp2_with fail
        go_roundw
        case rel => exact ⟨sa, y :: sb, so ++ [x], TA.out, KB.out, h3, by rw [← HM.out]; exact HE.out, by have := SZ.out; simp at this ⊢; omega, by have := SZ.out; simp at this ⊢; omega, by have := SZ.out; simp at this ⊢; omega, fun e => HN.out (M3.out e), F3⟩
        case measure => have h := sl_lenV TA.out; rw [h]; simp [lenV]
    · have hres : mrg a b = so ++ sa ++ sb := by
        rw [← HE.out]
        rcases hend with rfl | rfl
        · simp [mrg]
        · simp [mrg_nil]
      obtain ⟨A1, c1, rfl⟩ := Sl.shape hsa
      obtain ⟨B1, d1, rfl⟩ := Sl.shape hsb
      have SZ := Lib.hid (And.intro hl1 (And.intro hl2 hl3))
      have HR := Lib.hid hres
      have hB2 : w.heap.size ≤ wr.heap.size := hf.size
      have hlen : sa = [] ∨ ((0 : Int) < sa.length ∧ sb = []) := by
        rcases hend with rfl | rfl
        · exact Or.inl rfl
        · cases sa with
          | nil => exact Or.inl rfl
          | cons z r => exact Or.inr ⟨by simp <;> omega, rfl⟩
      have AP := Lib.hid (fun (W : World) => trivial)
      clear hres hend hsa hsb hso he hn hf hl1 hl2 hl3 HA HB
      rcases hlen with rfl | ⟨hz, rfl⟩
      all_goals
        go_wp2_with (at_builtin; first
          | (refine Slices.wpList_app EPt_ok rfl (.tmp 46) (.tmp 47) 22 rfl rfl w.heap.size _ _ so _ rfl HS.out rfl (Sl.fr KA.out HF.out).come (by have := SZ.out; simp at this ⊢; omega) hB2 ?_; intro v3 w3 h3 f3 b3 m3; have F3 : Fr Nil w w3 := Fr.then HF.out f3 (fun i hi hlt => by have := (HS.out.lt i hi).1; omega); have hB3 := F3.size)
          | (refine Slices.wpList_app EPt_ok rfl (.tmp 48) (.tmp 49) 22 rfl rfl w.heap.size _ _ _ _ rfl h3 rfl (Sl.fr KB.out F3).come (by have := SZ.out; simp at this ⊢; omega) hB3 ?_; intro v4 w4 h4 f4 b4 m4; have F4 : Fr Nil w w4 := Fr.then F3 f4 (fun i hi hlt => by have := (h3.lt i hi).1; omega)))
        go_ret
        exact ⟨_, rfl, F4, by rw [HR.out]; exact h4, fun e => HN.out (m3 (m4 e))⟩
theorem by_any (l : List Pn) (v : Value) (w : World) (hl : l.length ≤ 1000) (hv : Sl EPt w v l) :
    Calls Try.prog 80 #[v, lessV] w fun e w' => ∃ u, e = .returned u ∧ Fr Nil w w' ∧ Sl EPt w' u (srt l) := by
  rcases hv with ⟨rfl, rfl⟩ | ⟨g, o, cap, rfl, h⟩
  · exact (by_none w).mono fun e w' ⟨he, hf⟩ => ⟨_, he, hf, Or.inl ⟨rfl, rfl⟩⟩
  · exact by_some l g o cap w hl (Or.inr ⟨g, o, cap, rfl, h⟩)

set_option maxRecDepth 100000 in
set_option maxHeartbeats 4000000 in
theorem sort_n (n : Nat) : ∀ (l : List Pn) (v : Value) (w : World), l.length ≤ n → l.length ≤ 500 → Sl EPt w v l →
    Calls Try.prog 71 #[v, lessV] w fun e w' => ∃ u, e = .returned u ∧ Fr Nil w w' ∧ Sl EPt w' u (srt l) := by
  induction n using Nat.strongRecOn with
  | ind n ih =>
    intro l v w hn hl hv
    by_cases h8 : l.length ≤ 8
    · have K := Lib.hid (by_any l v w (by omega) hv)
      have h8' : (l.length : Int) ≤ 8 := by omega
      obtain ⟨A, c, rfl⟩ := Sl.shape hv
      clear hv ih hn hl h8
      unfold lessV at *
      go_enter Try.func71, Try.ntmps71
      go_wp2_with fail
      refine K.out.mono ?_
      rintro e w1 ⟨u, rfl, hf1, hs1⟩
      go_wp2_with fail
      go_ret
      exact ⟨u, rfl, hf1, hs1⟩
    · rcases hv with ⟨rfl, rfl⟩ | ⟨g, o, cap, rfl, hc, ha, hr⟩
      · simp at h8
      obtain ⟨m, hm⟩ : ∃ m, l.length / 2 = m := ⟨_, rfl⟩
      have hme : (l.length : Int) / 2 = m := by omega
      have hmt : (l.length : Int).tdiv 2 = m := by rw [Int.tdiv_eq_ediv_of_nonneg (by omega)]; exact hme
      have hml : m ≤ l.length := by omega
      have lt1 : (l.take m).length = m := by rw [List.length_take]; omega
      have lt2 : (l.drop m).length = l.length - m := by rw [List.length_drop]
      have KT := Lib.hid (head_sl m hc hml ha hr)
      have KD := Lib.hid (show Sl EPt w (.slice (some ⟨g, o + m * 3, none⟩) (l.length - m) (cap - m)) (l.drop m) from Or.inr ⟨g, o + m * 3, cap - m, by rw [lt2], by omega, ha, Row.drop EPt_ok hr m⟩)
      have IT := Lib.hid (fun W y h => ih m (by omega) (l.take m) y W (by omega) (by omega) h)
      have ID := Lib.hid (fun W y h => ih (l.length - m) (by omega) (l.drop m) y W (by omega) (by omega) h)
      have IM := Lib.hid (fun W u1 u2 h1 h2 => merge_any (srt (l.take m)) (srt (l.drop m)) u1 u2 W (by rw [srt_len]; omega) (by rw [srt_len]; omega) h1 h2)
      have b1 : (m : Int) ≤ l.length := by omega
      have b2 : (m : Int) ≤ cap := by omega
      have b3 : (0 : Int) ≤ m := by omega
      have b4 : ¬ (l.length : Int) ≤ 8 := by omega
      have b5 : (l.length : Int) ≤ cap := by omega
      have hw : wrap64 (m : Int) = m := by unfold wrap64; omega
      have HM := Lib.hid hm
      clear ih hn hl h8 hr ha hc hm hml lt1 lt2
      unfold lessV at *
      go_enter Try.func71, Try.ntmps71
      go_wp2_with fail
      go_region_held3 (fun w' => w.heap.size ≤ w'.heap.size) (first | (exact Nat.le_refl _) | (go_keep; done) | (exact z))
        (first | (go_at_call 81; refine (IM.out _ _ _ (Sl.fr hs1 hf2) hs2).mono ?_; rintro e w3 ⟨v3, rfl, hf3, hs3, _⟩; have F3 : Fr Nil w w3 := Fr.trans F2 hf3; have z := F3.size) | (go_at_call 71; with_reducible refine (IT.out _ _ (Sl.fr KT.out (by (repeat' (with_reducible first | refine Fr.setCell ?_ (fun hlt => absurd hlt (by dsimp only; omega)) _ | refine Fr.alloc ?_ _ | refine Fr.drewN ?_ _ | refine Fr.drew ?_ | exact Fr.refl _ _))))).mono ?_; rintro e w1 ⟨v1, rfl, hf1, hs1⟩; have F1 : Fr Nil w w1 := Fr.trans (by (repeat' (with_reducible first | refine Fr.setCell ?_ (fun hlt => absurd hlt (by dsimp only; omega)) _ | refine Fr.alloc ?_ _ | refine Fr.drewN ?_ _ | refine Fr.drew ?_ | exact Fr.refl _ _))) hf1; have z := F1.size) | (go_at_call 71; with_reducible refine (ID.out _ _ (Sl.fr KD.out (by first | exact F1 | exact F1.drew))).mono ?_; rintro e w2 ⟨v2, rfl, hf2, hs2⟩; have F2 : Fr Nil w w2 := Fr.trans F1 hf2; have z := F2.size))
      all_goals go_wp2_with fail
      all_goals
        go_ret
        exact ⟨_, rfl, F3, by have h := hs3.sl EPt_ok; rw [mrg_sorts, List.take_append_drop] at h; exact h⟩

theorem sort_any (l : List Pn) (v : Value) (w : World) (hl : l.length ≤ 500) (hv : Sl EPt w v l) :
    Calls Try.prog 51 #[v, lessV] w fun e w' => ∃ u, e = .returned u ∧ Fr Nil w w' ∧ Sl EPt w' u (srt l) := by
  have K := Lib.hid (sort_n l.length l v w (Nat.le_refl _) hl hv)
  obtain ⟨A, c, rfl⟩ := Sl.shape hv
  clear hv
  unfold lessV at *
  go_enter Try.func51, Try.ntmps51
  go_wp2_with fail
  refine K.out.mono ?_
  rintro e w1 ⟨u, rfl, hf1, hs1⟩
  go_wp2_with fail
  go_ret
  exact ⟨u, rfl, hf1, hs1⟩

end Go.Proofs.Ytalbaopfdejooaa.HullF
