/- Chapter 8: the walks of parts and Parts. -/
import Derived.Test.YtokgeegbeagblaaPickA
namespace Go.Proofs.Ytokgeegbeagblaa.PickB
open Go.RowKit Base SortA SortB SortC SortD SortE SortG SortI SortK PickA
set_option linter.unusedVariables false
set_option linter.unusedSimpArgs false

set_option maxRecDepth 100000 in
set_option maxHeartbeats 4000000 in
theorem parts_some (l : List Pr) (p : Pr) (g o cap : Nat) (w : World) (hl : l.length ≤ 1000) (hc : l.length ≤ cap) (ha : g < w.heap.size) (hr : Row w g o l) :
    Calls Try.prog 23 #[.slice (some ⟨g, o, none⟩) l.length cap, .agg #[.int .i64 p.1, .int .i64 p.2], lessV] w fun e w' => ∃ a b c, e = .returned (.tuple #[a, b, c]) ∧ Fr Nil w w' ∧ Three (w.heap.size + 1) w' a b c (lo p.1 l) (mi p.1 l) (hi p.1 l) := by
  have HB := Lib.hid (Bk.new w 28 #[.int .i64 p.1, .int .i64 p.2])
  have LL := Lib.hid (fun (q : Pr → Bool) (k : Nat) => cut_len q l k)
  have sz0 : (w.alloc (.cells #[.int .i64 p.1, .int .i64 p.2] 28)).heap.size = w.heap.size + 1 := by simp
  have S0 := Lib.hid sz0
  clear sz0
  unfold lessV
  go_enter Try.func23, Try.ntmps23
  go_wp2_with fail
  go_loopw [6, 7, 8, 13] (fun a b c i wr => ∃ k : Nat, k ≤ l.length ∧ i = .int .i64 k ∧ Three (w.heap.size + 1) wr a b c (lo p.1 (l.take k)) (mi p.1 (l.take k)) (hi p.1 (l.take k)) ∧ Fr Nil (w.alloc (.cells #[.int .i64 p.1, .int .i64 p.2] 28)) wr) (fun _ _ _ i _ => l.length - (intOf i).toNat)
  case atStart => exact ⟨0, by omega, rfl, Three.nil, Fr.refl _ _⟩
  case round =>
    obtain ⟨k, hk, rfl, h3, hf⟩ := hrel
    by_cases hlt : k < l.length
    · obtain ⟨x, hx⟩ : ∃ x, l[k]? = some x := ⟨l[k], List.getElem?_eq_getElem hlt⟩
      obtain ⟨c0, c1⟩ := (hr.fr (((Fr.refl Nil w).alloc _).trans hf) ha id) k x hx
      have hb := HB.out.fr hf id
      have hblt := hb.lt
      obtain ⟨b0, b1, _, _⟩ := hb.c2
      have H3 := Lib.hid h3
      have HF := Lib.hid hf
      have HX := Lib.hid hx
      have HBR := Lib.hid hb
      have sz : w.heap.size + 1 ≤ wr.heap.size := by have := hf.size; rw [S0.out] at this; exact this
      have l1 := LL.out (fun x => decide (x.1 < p.1)) k
      have l2 := LL.out (fun x => decide (x.1 = p.1)) k
      have l3 := LL.out (fun x => decide (p.1 < x.1)) k
      have L1 := Lib.hid (show (lo p.1 (l.take k)).length + [x].length ≤ 100000 by unfold lo; simp; omega)
      have L2 := Lib.hid (show (mi p.1 (l.take k)).length + [x].length ≤ 100000 by unfold mi; simp; omega)
      have L3 := Lib.hid (show (hi p.1 (l.take k)).length + [x].length ≤ 100000 by unfold hi; simp; omega)
      have KL := Lib.hid (fun W => less_any x p W)
      have KR := Lib.hid (fun W => less_any p x W)
      have HXN := Lib.hid (Bk.new wr 28 #[.int .i64 x.1, .int .i64 x.2])
      clear h3 hf hx hb l1 l2 l3
      rcases (by omega : x.1 < p.1 ∨ p.1 < x.1 ∨ (¬ x.1 < p.1 ∧ ¬ p.1 < x.1)) with hq | hq | ⟨hq, hq'⟩
      · have HE := Lib.hid (cut_low HX.out hq)
        simp only [decide_eq_true hq] at KL
        clear hq
        go_wp2_with fail
        refine (KL.out _).mono ?_
        rintro e w1 ⟨rfl, hf1⟩
        obtain ⟨d0, d1, _, _⟩ := (HXN.out.fr hf1 id).c2
        have T1 := Lib.hid (((H3.out.fr ((Fr.refl Nil wr).alloc _)).fr hf1).fr ((Fr.refl Nil w1).alloc (.cells #[.int .i64 x.1, .int .i64 x.2] 28)))
        have F1 := Lib.hid (((HF.out.alloc (.cells #[.int .i64 x.1, .int .i64 x.2] 28)).trans hf1).alloc (.cells #[.int .i64 x.1, .int .i64 x.2] 28))
        clear hf1
        go_wp2_with (at_builtin; refine wpList_appB rfl (.tmp 26) (.tmp 28) rfl (w.heap.size + 1) _ _ _ [x] rfl T1.out.1 rfl (one_sl' x rfl) L1.out (by have := F1.out.size; rw [S0.out] at this; exact this) ?_; intro v3 w7 h3 f3 b3 m3)
        have F7 := Fr.then F1.out f3 (fun i hi hlt => by have := (Own.lt T1.out.1 i hi).1; rw [S0.out] at hlt; omega)
        go_roundw
        case rel => exact ⟨k + 1, by omega, by go_num, by rw [HE.out.1, HE.out.2.1, HE.out.2.2]; exact T1.out.one h3 f3 b3, F7⟩
        case measure => simp [intOf]; omega
      · have HE := Lib.hid (cut_high HX.out hq)
        simp only [decide_eq_false (show ¬ x.1 < p.1 by omega)] at KL
        simp only [decide_eq_true hq] at KR
        clear hq
        go_wp2_with fail
        refine (KL.out _).mono ?_
        rintro e w1 ⟨rfl, hf1⟩
        obtain ⟨d0, d1, _, _⟩ := (HXN.out.fr hf1 id).c2
        obtain ⟨b0', b1', _, _⟩ := ((HBR.out.alloc (.cells #[.int .i64 x.1, .int .i64 x.2] 28)).fr hf1 id).c2
        have F0 := Lib.hid hf1
        clear hf1
        go_wp2_with fail
        refine (KR.out _).mono ?_
        rintro e w2 ⟨rfl, hf2⟩
        obtain ⟨d0', d1', _, _⟩ := ((HXN.out.fr F0.out id).fr hf2 id).c2
        have T1 := Lib.hid (((H3.out.fr ((Fr.refl Nil wr).alloc _)).fr (F0.out.trans hf2)).fr ((Fr.refl Nil w2).alloc (.cells #[.int .i64 x.1, .int .i64 x.2] 28)))
        have F1 := Lib.hid (((HF.out.alloc (.cells #[.int .i64 x.1, .int .i64 x.2] 28)).trans (F0.out.trans hf2)).alloc (.cells #[.int .i64 x.1, .int .i64 x.2] 28))
        clear hf2
        go_wp2_with (at_builtin; refine wpList_appB rfl (.tmp 35) (.tmp 37) rfl (w.heap.size + 1) _ _ _ [x] rfl T1.out.2.2.1 rfl (one_sl' x rfl) L3.out (by have := F1.out.size; rw [S0.out] at this; exact this) ?_; intro v3 w7 h3 f3 b3 m3)
        have F7 := Fr.then F1.out f3 (fun i hi hlt => by have := (Own.lt T1.out.2.2.1 i hi).1; rw [S0.out] at hlt; omega)
        go_roundw
        case rel => exact ⟨k + 1, by omega, by go_num, by rw [HE.out.1, HE.out.2.1, HE.out.2.2]; exact T1.out.three h3 f3 b3, F7⟩
        case measure => simp [intOf]; omega
      · have HE := Lib.hid (cut_mid HX.out hq hq')
        simp only [decide_eq_false hq] at KL
        simp only [decide_eq_false hq'] at KR
        clear hq hq'
        go_wp2_with fail
        refine (KL.out _).mono ?_
        rintro e w1 ⟨rfl, hf1⟩
        obtain ⟨d0, d1, _, _⟩ := (HXN.out.fr hf1 id).c2
        obtain ⟨b0', b1', _, _⟩ := ((HBR.out.alloc (.cells #[.int .i64 x.1, .int .i64 x.2] 28)).fr hf1 id).c2
        have F0 := Lib.hid hf1
        clear hf1
        go_wp2_with fail
        refine (KR.out _).mono ?_
        rintro e w2 ⟨rfl, hf2⟩
        obtain ⟨d0', d1', _, _⟩ := ((HXN.out.fr F0.out id).fr hf2 id).c2
        have T1 := Lib.hid (((H3.out.fr ((Fr.refl Nil wr).alloc _)).fr (F0.out.trans hf2)).fr ((Fr.refl Nil w2).alloc (.cells #[.int .i64 x.1, .int .i64 x.2] 28)))
        have F1 := Lib.hid (((HF.out.alloc (.cells #[.int .i64 x.1, .int .i64 x.2] 28)).trans (F0.out.trans hf2)).alloc (.cells #[.int .i64 x.1, .int .i64 x.2] 28))
        clear hf2
        go_wp2_with (at_builtin; refine wpList_appB rfl (.tmp 17) (.tmp 19) rfl (w.heap.size + 1) _ _ _ [x] rfl T1.out.2.1 rfl (one_sl' x rfl) L2.out (by have := F1.out.size; rw [S0.out] at this; exact this) ?_; intro v3 w7 h3 f3 b3 m3)
        have F7 := Fr.then F1.out f3 (fun i hi hlt => by have := (Own.lt T1.out.2.1 i hi).1; rw [S0.out] at hlt; omega)
        go_roundw
        case rel => exact ⟨k + 1, by omega, by go_num, by rw [HE.out.1, HE.out.2.1, HE.out.2.2]; exact T1.out.two h3 f3 b3, F7⟩
        case measure => simp [intOf]; omega
    · obtain rfl : k = l.length := by omega
      rw [List.take_length] at h3
      go_wp2_with fail
      refine bodyPost_ret (v := .tuple #[u6, u7, u8]) (by simp [results, Try.results23, go_sem]) rfl ⟨_, _, _, rfl, ((Fr.refl Nil w).alloc _).trans hf, h3⟩

theorem parts_any (l : List Pr) (p : Pr) (v : Value) (w : World) (hl : l.length ≤ 1000) (hv : Sl w v l) :
    Calls Try.prog 23 #[v, .agg #[.int .i64 p.1, .int .i64 p.2], lessV] w fun e w' => ∃ a b c, e = .returned (.tuple #[a, b, c]) ∧ Fr Nil w w' ∧ Three (w.heap.size + 1) w' a b c (lo p.1 l) (mi p.1 l) (hi p.1 l) := by
  rcases hv with ⟨rfl, rfl⟩ | ⟨g, o, cap, rfl, hc, ha, hr⟩
  · unfold lessV
    go_enter Try.func23, Try.ntmps23
    go_wp2_with fail
    refine wp_loop_rounds 1 ?_
    rw [rounds_succ]
    go_wp2
    exact bodyPost_ret (v := .tuple #[.slice none 0 0, .slice none 0 0, .slice none 0 0]) (by simp [results, Try.results23, go_sem]) rfl ⟨_, _, _, rfl, (Fr.refl Nil w).alloc _, Three.nil⟩
  · exact parts_some l p g o cap w hl hc ha hr

theorem Parts_any (l : List Pr) (p : Pr) (v : Value) (w : World) (hl : l.length ≤ 1000) (hv : Sl w v l) :
    Calls Try.prog 16 #[v, .agg #[.int .i64 p.1, .int .i64 p.2], lessV] w fun e w' => ∃ a b c, e = .returned (.tuple #[a, b, c]) ∧ Fr Nil w w' ∧ Sl w' a (lo p.1 l) ∧ Sl w' b (mi p.1 l) ∧ Sl w' c (hi p.1 l) := by
  have K := Lib.hid (parts_any l p v (w.alloc (.cells #[.int .i64 p.1, .int .i64 p.2] 28)) hl (Sl.alloc hv _))
  obtain ⟨b0, b1, _, _⟩ := (Bk.new w 28 #[.int .i64 p.1, .int .i64 p.2]).c2
  obtain ⟨A, c, rfl⟩ := Sl.shape hv
  clear hv
  unfold lessV at *
  go_enter Try.func16, Try.ntmps16
  go_wp2_with fail
  refine K.out.mono ?_
  rintro e w1 ⟨a, b, c, rfl, hf1, h3⟩
  go_wp2_with fail
  exact bodyPost_ret (v := .tuple #[a, b, c]) (by simp [results, Try.results16, go_sem]) rfl ⟨_, _, _, rfl, ((Fr.refl Nil w).alloc _).trans hf1, h3.1.sl, h3.2.1.sl, h3.2.2.1.sl⟩
end Go.Proofs.Ytokgeegbeagblaa.PickB
