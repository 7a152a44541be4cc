/- Chapter 30: the walk of the reference's Encode. -/
import Derived.Test.YtfkjonpbopoiaaaReplyE
namespace Go.Proofs.Ytfkjonpbopoiaaa.ReplyM
open Go.RowKit Base Slices VintA VintB Quiet ReplyA ReplyB ReplyC ReplyD ReplyE
set_option linter.unusedVariables false
set_option linter.unusedSimpArgs false
theorem wrx (x last : Int) (h0 : 0 ≤ x) (h1 : x ≤ 2147483647) (h2 : 0 ≤ last) (h3 : last ≤ 2147483647) : IntKind.i64.wrap (x - last) = x - last := by rw [IntKind.wrap_i64]; omega
section
variable (w : World)
set_option maxRecDepth 100000 in
set_option maxHeartbeats 4000000 in
theorem refenc_any (r : Rp) (v : Value) (hg : GoodR r) (hl : r.ids.length ≤ 1000) (hv : Rv w v r) :
    Calls Try.prog 12 #[v] w fun e w' => ∃ u, e = .returned u ∧ Fr Nil w w' ∧ Own EB w' w.heap.size u (encR r) := by
  obtain ⟨s, rfl, hs⟩ := hv
  have HB0 := Lib.hid (Bk.new w 27 (rc r s))
  have G0 := Lib.hid ((Fr.refl Nil w).alloc (.cells (rc r s) 27))
  have HS0 := Lib.hid (hs.fr G0.out)
  obtain ⟨A, cp, rfl⟩ := hs.shape
  have HSm := Lib.hid (good_small hg)
  have hgc := hg.1
  have hgc2 := hg.2.1
  have hn0 := hg.2.2.2.2.1
  have hn1 := hg.2.2.2.2.2.1
  have hla := hg.2.2.1
  have HNil := Lib.hid hg.2.2.2.2.2.2.2.1
  obtain ⟨T, hT, hTl, hTe⟩ : ∃ T, encR r = T ∧ T.length ≤ 12 + 10 * r.ids.length ∧ r.c :: (mid r ++ deltas 0 r.ids) = T := ⟨_, rfl, encR_len hg, rfl⟩
  rw [hT]
  have HTL := Lib.hid hTl
  have HTE := Lib.hid hTe
  clear hs hg hT hTl hTe
  obtain ⟨c, a, l, n, ids⟩ := r
  unfold rv rc mid at *
  dsimp only at *
  obtain ⟨b0, b1, b2, b3, b4, _⟩ := HB0.out.c5
  have hcw : c % 256 = c := by omega
  cases l with
  | true =>
    obtain rfl : a = true := hla rfl
    have O1 := Lib.hid (show Own EB ((w.alloc (.cells #[.int .i64 c, .bool true, .bool true, .int .i64 n, .slice A ids.length cp] 27)).alloc (.cells #[.int .u8 c] 5)) (w.heap.size + 1) (.slice (some ⟨w.heap.size + 1, 0, none⟩) 1 1) [c] from Own.lit EB_ok [c] rfl (by simp) (by unfold maxLen; simp) (by simp))
    have R1 := Lib.hid (show Fr Nil (w.alloc (.cells #[.int .i64 c, .bool true, .bool true, .int .i64 n, .slice A ids.length cp] 27)) ((w.alloc (.cells #[.int .i64 c, .bool true, .bool true, .int .i64 n, .slice A ids.length cp] 27)).alloc (.cells #[.int .u8 c] 5)) from (Fr.refl _ _).alloc _)
    have c0 := HB0.out.fr R1.out id |>.c5
    obtain ⟨d0, d1, d2, d3, d4, _⟩ := c0
    go_enter Try.func12, Try.ntmps12
    have O2 := Lib.hid (show Own EB (((w.alloc (.cells #[.int .i64 c, .bool true, .bool true, .int .i64 n, .slice A ids.length cp] 27)).alloc (.cells #[.int .u8 c] 5)).alloc (.cells #[.int .u8 2] 5)).drew (w.heap.size + 1) (.slice (some ⟨w.heap.size + 1, 0, none⟩) 1 1) [c] from O1.out.fr (S := Nil) (((Fr.refl _ _).alloc _).drew) (fun _ _ h => h))
    have R2 := Lib.hid (show Fr Nil (w.alloc (.cells #[.int .i64 c, .bool true, .bool true, .int .i64 n, .slice A ids.length cp] 27)) (((w.alloc (.cells #[.int .i64 c, .bool true, .bool true, .int .i64 n, .slice A ids.length cp] 27)).alloc (.cells #[.int .u8 c] 5)).alloc (.cells #[.int .u8 2] 5)).drew from (((Fr.refl _ _).alloc _).alloc _).drew)
    have Y2 := Lib.hid (show Come EB (((w.alloc (.cells #[.int .i64 c, .bool true, .bool true, .int .i64 n, .slice A ids.length cp] 27)).alloc (.cells #[.int .u8 c] 5)).alloc (.cells #[.int .u8 2] 5)).drew (.slice (some ⟨w.heap.size + 1 + 1, 0, none⟩) 1 1) [2] from Come.fr (one_b (w := ((w.alloc (.cells #[.int .i64 c, .bool true, .bool true, .int .i64 n, .slice A ids.length cp] 27)).alloc (.cells #[.int .u8 c] 5))) (g := w.heap.size + 1 + 1) 2 (by simp)) ((Fr.refl Nil _).drew))
    have KI := Lib.hid (fun W u h hw => ref_loop (w.heap.size + 1) ([c] ++ [2]) n u W (by omega) (by omega) (by simp) h hw)
    go_wp2_with fail
    generalize hv3 : (Value.slice (some ⟨w.heap.size + 1, 0, none⟩) 1 1) = v3 at O2 ⊢
    clear hv3
    go_region_held3 (fun w' => w'.cell? ⟨w.heap.size, 3, none⟩ = some (.int .i64 n)) (first | (go_keep; done) | assumption)
        (first | (rw [if_pos (by rfl)]; refine wp_app EB_ok (.tmp 24) (.tmp 25) 29 rfl rfl (w.heap.size + 1) _ _ [c] [2] rfl O2.out rfl Y2.out (by simp) (by simp) ?_; intro v4 w4 o4 f4 b4 n4; have F4 := Lib.hid (show Fr Nil (w.alloc (.cells #[.int .i64 c, .bool true, .bool true, .int .i64 n, .slice A ids.length cp] 27)) w4 from R2.out.then f4 (fun i hi hlt => absurd (O2.out.lt i hi).1 (by simp at hlt; omega))); have z4 := (HB0.out.fr F4.out id).cell 3) | (go_at_call 23; (with_reducible refine (KI.out _ _ o4 (by have := F4.out.size; simp at this; omega)).mono ?_); rintro e w5 ⟨u5, rfl, x5, o5⟩; have F5 := Lib.hid (show Fr Nil (w.alloc (.cells #[.int .i64 c, .bool true, .bool true, .int .i64 n, .slice A ids.length cp] 27)) w5 from F4.out.then x5.1 (fun i hi hlt => absurd (o4.lt i hi).1 (by simp at hlt; omega))); have z5 := (HB0.out.fr F5.out id).cell 3))
    all_goals
      have UH := Lib.hid o5
      have HPT := Lib.hid (show ([c] ++ [2] ++ vint (fold n)) ++ deltas 0 ids = T by rw [← HTE.out]; simp)
      obtain ⟨z0, z1, z2, z3, z4, _⟩ := (HB0.out.fr F5.out id).c5
      clear o5 x5 o4 f4 b4 n4 O1 R1 O2 R2 Y2 KI F4 b0 b1 b2 b3 d0 d1 d2 d3 d4 z5
      have HZb := Lib.hid (show (w.alloc (.cells #[.int .i64 c, .bool true, .bool true, .int .i64 n, .slice A ids.length cp] 27)).heap.size = w.heap.size + 1 by simp)
      go_wp2_with fail
      generalize w.alloc (.cells #[.int .i64 c, .bool true, .bool true, .int .i64 n, .slice A ids.length cp] 27) = wb at HZb G0 HB0 HS0 F5
      have GH := Lib.hid G0.out
      have HX0 := Lib.hid (Fr.refl Nil wb)
      have HF := Lib.hid GH.out
      have HTl := Lib.hid (show T.length ≤ 100000 by have := HTL.out; omega)
      have hsl := HS0.out.fr HX0.out
      rcases hsl with ⟨he, h0⟩ | ⟨g, o, cap, he, hc, ha, hr⟩
      · injection he with he1 he2 he3
        subst he1
        subst he3
        have hpre : ([c] ++ [2] ++ vint (fold n)) = T := by rw [← HPT.out, h0]; simp [deltas]
        subst hpre
        rw [h0]
        refine wp_loop_rounds 1 ?_
        rw [rounds_succ]
        go_wp2
        go_ret
        exact ⟨_, rfl, HF.out.trans F5.out, UH.out.weaken (by omega)⟩
      · injection he with he1 he2 he3
        subst he1
        subst he3
        have HR := Lib.hid hr
        clear hr he2
        go_loopw [3, 4, 5] (fun v3 v4 i wr => ∃ (k : Nat) (pre : List Int) (last : Int), k ≤ ids.length ∧ i = .int .i64 k ∧ v4 = .int .i64 last ∧ Small last ∧ Own EB wr (w.heap.size + 1) v3 pre ∧ pre ++ deltas last (ids.drop k) = T ∧ Fr Nil wb wr) (fun _ _ i _ => ids.length - (intOf i).toNat)
        case atStart => exact ⟨0, ([c] ++ [2] ++ vint (fold n)), 0, by omega, rfl, rfl, by unfold Small; omega, UH.out, HPT.out, F5.out⟩
        case round =>
          obtain ⟨k, pre, last, hk, rfl, rfl, hsm, ho, hp, hf⟩ := hrel
          have HO := Lib.hid ho
          have HP := Lib.hid hp
          have HFr := Lib.hid hf
          have hk0 : (0 : Int) ≤ k := Int.natCast_nonneg k
          have hpl : pre.length ≤ 100000 := by
            have := congrArg List.length hp
            rw [List.length_append] at this
            have := HTl.out
            omega
          have hl0 : 0 ≤ last := hsm.1
          have hl1 : last ≤ 2147483647 := hsm.2
          clear ho hp hf hsm
          obtain ⟨z0, z1, z2, z3, z4, _⟩ := (HB0.out.fr (HX0.out.trans HFr.out) id).c5
          by_cases hlt : k < ids.length
          · have hlt' : (k : Int) < ids.length := by omega
            obtain ⟨x, hx⟩ : ∃ x, ids[k]? = some x := ⟨ids[k], List.getElem?_eq_getElem hlt⟩
            have c0 := row_at (HR.out.fr HFr.out ha id) hx
            have hxs := HSm.out x (List.mem_of_getElem? hx)
            have hx0 : 0 ≤ x := hxs.1
            have hx1 : x ≤ 2147483647 := hxs.2
            have HE := Lib.hid (deltas_step hx last)
            have KX := Lib.hid (Int_any pre (x - last) u3 wr (by omega) (by omega) hpl (HO.out.sl EB_ok).come)
            have HXX := Lib.hid hx
            have HPL := Lib.hid hpl
            clear hx hxs hpl
            obtain ⟨z0, z1, z2, z3, z4', _⟩ := (HB0.out.fr (HX0.out.trans HFr.out) id).c5
            have KY := Lib.hid (fun W (h : Fr Nil wr W) => ref_loop (w.heap.size + 1) pre (x - last) u3 W (by omega) (by omega) (by have := HPL.out; omega) (HO.out.fr h (fun _ _ s => s)) (by have := HFr.out.size; have := h.size; have := HZb.out; omega))
            have HCx := Lib.hid (fun W (h : Fr Nil wr W) => row_at (HR.out.fr (HFr.out.trans h) ha id) HXX.out)
            have HBx := Lib.hid (fun W (h : Fr Nil wr W) => (HB0.out.fr (HX0.out.trans (HFr.out.trans h)) id).cell 4)
            have HGl := Lib.hid (show g < w.heap.size + 1 by have := HZb.out; omega)
            have hwx := wrx x last hx0 hx1 hl0 hl1
            have hown : ∀ k, u3.ownBlock = some k → w.heap.size + 1 ≤ k := fun k hk => (HO.out.lt k hk).1
            have HOw := Lib.hid hown
            clear hown
            have q1 := HBx.out _ (Fr.refl Nil wr).drew
            have q2 := HCx.out _ (Fr.refl Nil wr).drew
            go_wp2_with fail
            go_region_held3 (fun w' => w'.cell? ⟨w.heap.size, 4, none⟩ = some (.slice (some ⟨g, o, none⟩) ids.length cp) ∧ w'.cell? ⟨g, o + k, none⟩ = some (.int .i64 x)) (first | (go_keep; done) | exact ⟨y1, y2⟩ | exact ⟨q1, q2⟩)
              ((go_at_call 23; (with_reducible refine (KY.out _ (by first | exact (Fr.refl Nil wr).drew | exact Fr.refl Nil wr)).mono ?_); rintro e w9 ⟨u9, rfl, x9, ho9⟩; have HO9 := Lib.hid ho9; have HF9 := Lib.hid (show Fr (Of u3) wr w9 from ((Fr.refl Nil wr).drew.of_nil).trans x9.1); have y1 := (HB0.out.fr (HX0.out.trans HFr.out) id |>.fr HF9.out (fun s => by have := HOw.out _ s; omega)).cell 4; have y2 := row_at ((HR.out.fr HFr.out ha id).fr HF9.out (Nat.lt_of_lt_of_le ha HFr.out.size) (fun s => by have := HOw.out _ s; have := HGl.out; omega)) HXX.out; have HFw := Lib.hid (show Fr Nil wb w9 from HFr.out.then HF9.out (fun i hi hlt => by have := HOw.out i hi; have := HZb.out; omega))))
            go_wp2_with fail
            go_roundw
            case rel => exact ⟨k + 1, _, x, by omega, by go_num, rfl, ⟨hx0, hx1⟩, HO9.out, by rw [← HP.out, HE.out, List.append_assoc], HFw.out⟩
            case measure => simp [intOf]; omega
          · obtain rfl : k = ids.length := by omega
            have hpre : pre = T := by have := HP.out; rw [List.drop_length, deltas, List.append_nil] at this; exact this
            subst hpre
            go_wp2_with fail
            go_ret
            exact ⟨_, rfl, HF.out.trans HFr.out, HO.out.weaken (by omega)⟩
  | false =>
    have HI := Lib.hid (HNil.out rfl)
    cases a with
    | true =>
      have O1 := Lib.hid (show Own EB ((w.alloc (.cells #[.int .i64 c, .bool true, .bool false, .int .i64 n, .slice A ids.length cp] 27)).alloc (.cells #[.int .u8 c] 5)) (w.heap.size + 1) (.slice (some ⟨w.heap.size + 1, 0, none⟩) 1 1) [c] from Own.lit EB_ok [c] rfl (by simp) (by unfold maxLen; simp) (by simp))
      have R1 := Lib.hid (show Fr Nil (w.alloc (.cells #[.int .i64 c, .bool true, .bool false, .int .i64 n, .slice A ids.length cp] 27)) ((w.alloc (.cells #[.int .i64 c, .bool true, .bool false, .int .i64 n, .slice A ids.length cp] 27)).alloc (.cells #[.int .u8 c] 5)) from (Fr.refl _ _).alloc _)
      have c0 := HB0.out.fr R1.out id |>.c5
      obtain ⟨d0, d1, d2, d3, d4, _⟩ := c0
      go_enter Try.func12, Try.ntmps12
      have O2 := Lib.hid (show Own EB (((w.alloc (.cells #[.int .i64 c, .bool true, .bool false, .int .i64 n, .slice A ids.length cp] 27)).alloc (.cells #[.int .u8 c] 5)).alloc (.cells #[.int .u8 1] 5)).drew (w.heap.size + 1) (.slice (some ⟨w.heap.size + 1, 0, none⟩) 1 1) [c] from O1.out.fr (S := Nil) (((Fr.refl _ _).alloc _).drew) (fun _ _ h => h))
      have R2 := Lib.hid (show Fr Nil (w.alloc (.cells #[.int .i64 c, .bool true, .bool false, .int .i64 n, .slice A ids.length cp] 27)) (((w.alloc (.cells #[.int .i64 c, .bool true, .bool false, .int .i64 n, .slice A ids.length cp] 27)).alloc (.cells #[.int .u8 c] 5)).alloc (.cells #[.int .u8 1] 5)).drew from (((Fr.refl _ _).alloc _).alloc _).drew)
      have Y2 := Lib.hid (show Come EB (((w.alloc (.cells #[.int .i64 c, .bool true, .bool false, .int .i64 n, .slice A ids.length cp] 27)).alloc (.cells #[.int .u8 c] 5)).alloc (.cells #[.int .u8 1] 5)).drew (.slice (some ⟨w.heap.size + 1 + 1, 0, none⟩) 1 1) [1] from Come.fr (one_b (w := ((w.alloc (.cells #[.int .i64 c, .bool true, .bool false, .int .i64 n, .slice A ids.length cp] 27)).alloc (.cells #[.int .u8 c] 5))) (g := w.heap.size + 1 + 1) 1 (by simp)) ((Fr.refl Nil _).drew))
      have KI := Lib.hid (fun W u h hw => ref_loop (w.heap.size + 1) ([c] ++ [1]) n u W (by omega) (by omega) (by simp) h hw)
      go_wp2_with fail
      generalize hv3 : (Value.slice (some ⟨w.heap.size + 1, 0, none⟩) 1 1) = v3 at O2 ⊢
      clear hv3
      go_region_held3 (fun w' => w'.cell? ⟨w.heap.size, 3, none⟩ = some (.int .i64 n)) (first | (go_keep; done) | assumption)
          (first | (rw [if_pos (by rfl)]; refine wp_app EB_ok (.tmp 17) (.tmp 18) 29 rfl rfl (w.heap.size + 1) _ _ [c] [1] rfl O2.out rfl Y2.out (by simp) (by simp) ?_; intro v4 w4 o4 f4 b4 n4; have F4 := Lib.hid (show Fr Nil (w.alloc (.cells #[.int .i64 c, .bool true, .bool false, .int .i64 n, .slice A ids.length cp] 27)) w4 from R2.out.then f4 (fun i hi hlt => absurd (O2.out.lt i hi).1 (by simp at hlt; omega))); have z4 := (HB0.out.fr F4.out id).cell 3) | (go_at_call 23; (with_reducible refine (KI.out _ _ o4 (by have := F4.out.size; simp at this; omega)).mono ?_); rintro e w5 ⟨u5, rfl, x5, o5⟩; have F5 := Lib.hid (show Fr Nil (w.alloc (.cells #[.int .i64 c, .bool true, .bool false, .int .i64 n, .slice A ids.length cp] 27)) w5 from F4.out.then x5.1 (fun i hi hlt => absurd (o4.lt i hi).1 (by simp at hlt; omega))); have z5 := (HB0.out.fr F5.out id).cell 3))
      all_goals
        have hE : ([c] ++ [1] ++ vint (fold n)) = T := by rw [← HTE.out, HI.out]; simp [deltas]
        rw [hE] at o5
        go_wp2_with fail
        go_ret
        exact ⟨_, rfl, G0.out.trans F5.out, o5.weaken (by omega)⟩
    | false =>
      have O1 := Lib.hid (show Own EB ((w.alloc (.cells #[.int .i64 c, .bool false, .bool false, .int .i64 n, .slice A ids.length cp] 27)).alloc (.cells #[.int .u8 c] 5)) (w.heap.size + 1) (.slice (some ⟨w.heap.size + 1, 0, none⟩) 1 1) [c] from Own.lit EB_ok [c] rfl (by simp) (by unfold maxLen; simp) (by simp))
      have R1 := Lib.hid (show Fr Nil (w.alloc (.cells #[.int .i64 c, .bool false, .bool false, .int .i64 n, .slice A ids.length cp] 27)) ((w.alloc (.cells #[.int .i64 c, .bool false, .bool false, .int .i64 n, .slice A ids.length cp] 27)).alloc (.cells #[.int .u8 c] 5)) from (Fr.refl _ _).alloc _)
      have c0 := HB0.out.fr R1.out id |>.c5
      obtain ⟨d0, d1, d2, d3, d4, _⟩ := c0
      have hE : [c] = T := by rw [← HTE.out, HI.out]; simp [deltas]
      subst hE
      go_enter Try.func12, Try.ntmps12
      go_wp2_with fail
      go_ret
      exact ⟨_, rfl, G0.out.trans R1.out, O1.out.weaken (by omega)⟩
end
end Go.Proofs.Ytfkjonpbopoiaaa.ReplyM
