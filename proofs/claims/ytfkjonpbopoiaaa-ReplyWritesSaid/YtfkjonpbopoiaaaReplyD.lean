/- Chapter 30: the bytes of a good reply; the walks of encoded, Encode, and of the reference's Encode. -/
import Derived.Test.YtfkjonpbopoiaaaReplyC
namespace Go.Proofs.Ytfkjonpbopoiaaa.ReplyD
open Go.RowKit Base Slices VintA VintB Quiet ReplyA ReplyB ReplyC
set_option linter.unusedVariables false
set_option linter.unusedSimpArgs false

def deltas : Int → List Int → List Int
  | _, [] => []
  | last, x :: l => vint (fold (x - last)) ++ deltas x l
def mid (r : Rp) : List Int := if r.l = true then 2 :: vint (fold r.n) else if r.a = true then 1 :: vint (fold r.n) else []
def encR (r : Rp) : List Int := r.c :: (mid r ++ deltas 0 r.ids)

def Small (n : Int) : Prop := 0 ≤ n ∧ n ≤ 2147483647
theorem good_small {r : Rp} (h : GoodR r) : ∀ x ∈ r.ids, Small x := fun x hx => by
  have := h.2.2.2.2.2.2.2.2.2.2 x hx
  unfold Odd at this
  unfold Small
  omega
theorem deltas_len : ∀ (l : List Int) (last : Int), Small last → (∀ x ∈ l, Small x) → (deltas last l).length ≤ 10 * l.length
  | [], last, _, _ => by simp [deltas]
  | x :: l, last, h, hl => by
    have hx := hl x (by simp)
    have h1 := vint_len10 (fold_lt (n := x - last) (by unfold Small at *; omega) (by unfold Small at *; omega))
    have h2 := deltas_len l x hx (fun y hy => hl y (by simp [hy]))
    rw [deltas, List.length_append, List.length_cons]
    omega
theorem deltas_inj : ∀ (l m : List Int) (last : Int), deltas last l = deltas last m → l = m
  | [], [], _, _ => rfl
  | [], x :: m, last, h => by
    have := congrArg List.length h
    rw [deltas, deltas, List.length_append, List.length_nil] at this
    have h1 := vint_len_pos (fold (x - last))
    omega
  | x :: l, [], last, h => by
    have := congrArg List.length h
    rw [deltas, deltas, List.length_append, List.length_nil] at this
    have h1 := vint_len_pos (fold (x - last))
    omega
  | x :: l, y :: m, last, h => by
    rw [deltas, deltas] at h
    obtain ⟨h1, h2⟩ := vint_pre _ _ _ _ h
    have h3 := fold_inj h1
    obtain rfl : x = y := by omega
    rw [deltas_inj l m x h2]
theorem deltas_step {l : List Int} {k : Nat} {x : Int} (h : l[k]? = some x) (last : Int) : deltas last (l.drop k) = vint (fold (x - last)) ++ deltas x (l.drop (k + 1)) := by
  obtain ⟨hk, rfl⟩ := List.getElem?_eq_some_iff.1 h
  rw [List.drop_eq_getElem_cons hk, deltas]
theorem mid_len {r : Rp} (h : GoodR r) : (mid r).length ≤ 11 := by
  have h1 := vint_len10 (fold_lt (n := r.n) (by have := h.2.2.2.2.1; omega) (by have := h.2.2.2.2.2.1; omega))
  unfold mid
  split
  · rw [List.length_cons]; omega
  · split
    · rw [List.length_cons]; omega
    · simp
theorem encR_len {r : Rp} (h : GoodR r) : (encR r).length ≤ 12 + 10 * r.ids.length := by
  unfold encR
  rw [List.length_cons, List.length_append]
  have h1 := mid_len h
  have h2 := deltas_len r.ids 0 (by unfold Small; omega) (good_small h)
  omega
/-- unlike replies have unlike bytes -/
theorem encR_inj {r s : Rp} (hr : GoodR r) (hs : GoodR s) (h : encR r = encR s) : r = s := by
  obtain ⟨c, a, l, n, ids⟩ := r
  obtain ⟨c', a', l', n', ids'⟩ := s
  unfold encR mid at h
  unfold GoodR at hr hs
  dsimp only at *
  injection h with h1 h2
  subst h1
  cases a <;> cases l <;> cases a' <;> cases l' <;> simp_all [deltas]
  all_goals
    first
      | (obtain ⟨e1, e2⟩ := vint_pre _ _ _ _ h2
         exact ⟨fold_inj e1, deltas_inj _ _ _ e2⟩)
      | (exact fold_inj (vint_inj h2))
      | skip

section
variable (w : World)
set_option maxRecDepth 100000 in
set_option maxHeartbeats 4000000 in
theorem encoded_any (r : Rp) (v : Value) (hg : GoodR r) (hl : r.ids.length ≤ 1000) (hv : Rv w v r) :
    Calls Try.prog 17 #[v] w fun e w' => ∃ u, e = .returned u ∧ Fr Nil w w' ∧ Own EB w' w.heap.size u (encR r) := by
  obtain ⟨s, rfl, hs⟩ := hv
  have HB0 := Lib.hid (Bk.new w 27 (rc r s))
  have G0 := Lib.hid ((Fr.refl Nil w).alloc (.cells (rc r s) 27))
  have HS0 := Lib.hid (hs.fr G0.out)
  obtain ⟨A, cp, rfl⟩ := hs.shape
  have HSm := Lib.hid (good_small hg)
  have hgc := hg.1
  have hgc2 := hg.2.1
  have hn0 := hg.2.2.2.2.1
  have hn1 := hg.2.2.2.2.2.1
  have hla := hg.2.2.1
  obtain ⟨T, hT, hTl, hTe⟩ : ∃ T, encR r = T ∧ T.length ≤ 12 + 10 * r.ids.length ∧ r.c :: (mid r ++ deltas 0 r.ids) = T := ⟨_, rfl, encR_len hg, rfl⟩
  rw [hT]
  have HTL := Lib.hid hTl
  have HTE := Lib.hid hTe
  clear hs hg hT hTl hTe
  obtain ⟨c, a, l, n, ids⟩ := r
  unfold rv rc mid at *
  dsimp only at *
  obtain ⟨b0, b1, b2, b3, b4, _⟩ := HB0.out.c5
  have hcw : c % 256 = c := by omega
  cases l with
  | true =>
    obtain rfl : a = true := hla rfl
    have O1 := Lib.hid (show Own EB ((w.alloc (.cells #[.int .i64 c, .bool true, .bool true, .int .i64 n, .slice A ids.length cp] 27)).alloc (.cells #[.int .u8 c] 5)) (w.heap.size + 1) (.slice (some ⟨w.heap.size + 1, 0, none⟩) 1 1) [c] from Own.lit EB_ok [c] rfl (by simp) (by unfold maxLen; simp) (by simp))
    have R1 := Lib.hid (show Fr Nil (w.alloc (.cells #[.int .i64 c, .bool true, .bool true, .int .i64 n, .slice A ids.length cp] 27)) ((w.alloc (.cells #[.int .i64 c, .bool true, .bool true, .int .i64 n, .slice A ids.length cp] 27)).alloc (.cells #[.int .u8 c] 5)) from (Fr.refl _ _).alloc _)
    have c0 := HB0.out.fr R1.out id |>.c5
    go_enter Try.func17, Try.ntmps17
    obtain ⟨d0, d1, d2, d3, d4, _⟩ := c0
    have O2 := Lib.hid (show Own EB (((w.alloc (.cells #[.int .i64 c, .bool true, .bool true, .int .i64 n, .slice A ids.length cp] 27)).alloc (.cells #[.int .u8 c] 5)).alloc (.cells #[.int .u8 2] 5)).drew (w.heap.size + 1) (.slice (some ⟨w.heap.size + 1, 0, none⟩) 1 1) [c] from O1.out.fr (S := Nil) (((Fr.refl _ _).alloc _).drew) (fun _ _ h => h))
    have R2 := Lib.hid (show Fr Nil (w.alloc (.cells #[.int .i64 c, .bool true, .bool true, .int .i64 n, .slice A ids.length cp] 27)) (((w.alloc (.cells #[.int .i64 c, .bool true, .bool true, .int .i64 n, .slice A ids.length cp] 27)).alloc (.cells #[.int .u8 c] 5)).alloc (.cells #[.int .u8 2] 5)).drew from (((Fr.refl _ _).alloc _).alloc _).drew)
    have Y2 := Lib.hid (show Come EB (((w.alloc (.cells #[.int .i64 c, .bool true, .bool true, .int .i64 n, .slice A ids.length cp] 27)).alloc (.cells #[.int .u8 c] 5)).alloc (.cells #[.int .u8 2] 5)).drew (.slice (some ⟨w.heap.size + 1 + 1, 0, none⟩) 1 1) [2] from Come.fr (one_b (w := ((w.alloc (.cells #[.int .i64 c, .bool true, .bool true, .int .i64 n, .slice A ids.length cp] 27)).alloc (.cells #[.int .u8 c] 5))) (g := w.heap.size + 1 + 1) 2 (by simp)) ((Fr.refl Nil _).drew))
    have KI := Lib.hid (fun W u h => Int_any ([c] ++ [2]) n u W (by omega) (by omega) (by simp) h)
    go_wp2_with fail
    generalize hv3 : (Value.slice (some ⟨w.heap.size + 1, 0, none⟩) 1 1) = v3 at O2 ⊢
    clear hv3
    go_region_held3 (fun w' => w'.cell? ⟨w.heap.size, 3, none⟩ = some (.int .i64 n)) (first | (go_keep; done) | assumption)
        (first | (rw [if_pos (by rfl)]; refine wp_app EB_ok (.tmp 14) (.tmp 15) 29 rfl rfl (w.heap.size + 1) _ _ [c] [2] rfl O2.out rfl Y2.out (by simp) (by simp) ?_; intro v4 w4 o4 f4 b4 n4; have F4 := Lib.hid (show Fr Nil (w.alloc (.cells #[.int .i64 c, .bool true, .bool true, .int .i64 n, .slice A ids.length cp] 27)) w4 from R2.out.then f4 (fun i hi hlt => absurd (O2.out.lt i hi).1 (by simp at hlt; omega))); have z4 := (HB0.out.fr F4.out id).cell 3) | (go_at_call 26; with_reducible refine (KI.out _ _ (Sl.come (Own.sl EB_ok o4))).mono ?_; rintro e w5 ⟨u5, rfl, f5, o5⟩; have F5 := Lib.hid (F4.out.trans f5); have z5 := (HB0.out.fr F5.out id).cell 3))
    all_goals
      have GH := Lib.hid (G0.out.trans F5.out)
      have HX0 := Lib.hid F5.out
      have UH := Lib.hid (o5.weaken (b' := w.heap.size + 1) (by have := F4.out.size; simp at this; omega))
      have HPT := Lib.hid (show ([c] ++ [2] ++ vint (fold n)) ++ deltas 0 ids = T by rw [← HTE.out]; simp)
      obtain ⟨z0, z1, z2, z3, z4, _⟩ := (HB0.out.fr F5.out id).c5
      clear o5 f5 o4 f4 b4 n4
      go_wp2_with fail
      have HF := Lib.hid GH.out
      have HTl := Lib.hid (show T.length ≤ 100000 by have := HTL.out; omega)
      have hsl := HS0.out.fr HX0.out
      rcases hsl with ⟨he, h0⟩ | ⟨g, o, cap, he, hc, ha, hr⟩
      · injection he with he1 he2 he3
        subst he1
        subst he3
        have hpre : ([c] ++ [2] ++ vint (fold n)) = T := by rw [← HPT.out, h0]; simp [deltas]
        subst hpre
        rw [h0]
        refine wp_loop_rounds 1 ?_
        rw [rounds_succ]
        go_wp2
        go_ret
        exact ⟨_, rfl, HF.out, UH.out.weaken (by omega)⟩
      · injection he with he1 he2 he3
        subst he1
        subst he3
        have HR := Lib.hid hr
        clear hr he2
        go_loopw [3, 4, 35] (fun v3 v4 i wr => ∃ (k : Nat) (pre : List Int) (last : Int), k ≤ ids.length ∧ i = .int .i64 k ∧ v4 = .int .i64 last ∧ Small last ∧ Own EB wr (w.heap.size + 1) v3 pre ∧ pre ++ deltas last (ids.drop k) = T ∧ Fr Nil w5 wr) (fun _ _ i _ => ids.length - (intOf i).toNat)
        case atStart => exact ⟨0, ([c] ++ [2] ++ vint (fold n)), 0, by omega, rfl, rfl, by unfold Small; omega, UH.out, HPT.out, Fr.refl _ _⟩
        case round =>
          obtain ⟨k, pre, last, hk, rfl, rfl, hsm, ho, hp, hf⟩ := hrel
          have HO := Lib.hid ho
          have HP := Lib.hid hp
          have HFr := Lib.hid hf
          have hk0 : (0 : Int) ≤ k := Int.natCast_nonneg k
          have hpl : pre.length ≤ 100000 := by
            have := congrArg List.length hp
            rw [List.length_append] at this
            have := HTl.out
            omega
          have hl0 : 0 ≤ last := hsm.1
          have hl1 : last ≤ 2147483647 := hsm.2
          clear ho hp hf hsm
          by_cases hlt : k < ids.length
          · have hlt' : (k : Int) < ids.length := by omega
            obtain ⟨x, hx⟩ : ∃ x, ids[k]? = some x := ⟨ids[k], List.getElem?_eq_getElem hlt⟩
            have c0 := row_at (HR.out.fr HFr.out ha id) hx
            have hxs := HSm.out x (List.mem_of_getElem? hx)
            have hx0 : 0 ≤ x := hxs.1
            have hx1 : x ≤ 2147483647 := hxs.2
            have HE := Lib.hid (deltas_step hx last)
            have KX := Lib.hid (Int_any pre (x - last) u3 wr (by omega) (by omega) hpl (HO.out.sl EB_ok).come)
            clear hx hxs hpl
            go_wp2_with fail
            refine KX.out.mono ?_
            rintro e w9 ⟨u9, rfl, hf9, ho9⟩
            have HF9 := Lib.hid hf9
            have HO9 := Lib.hid ho9
            clear hf9 ho9
            go_wp2_with fail
            go_roundw
            case rel => exact ⟨k + 1, _, x, by omega, by go_num, rfl, ⟨hx0, hx1⟩, HO9.out.weaken (by have := HFr.out.size; have := HX0.out.size; simp at this; omega), by rw [← HP.out, HE.out, List.append_assoc], HFr.out.trans HF9.out⟩
            case measure => simp [intOf]; omega
          · obtain rfl : k = ids.length := by omega
            have hpre : pre = T := by have := HP.out; rw [List.drop_length, deltas, List.append_nil] at this; exact this
            subst hpre
            go_wp2_with fail
            go_ret
            exact ⟨_, rfl, HF.out.trans HFr.out, HO.out.weaken (by omega)⟩
  | false =>
    cases a with
    | true =>
      have O1 := Lib.hid (show Own EB ((w.alloc (.cells #[.int .i64 c, .bool true, .bool false, .int .i64 n, .slice A ids.length cp] 27)).alloc (.cells #[.int .u8 c] 5)) (w.heap.size + 1) (.slice (some ⟨w.heap.size + 1, 0, none⟩) 1 1) [c] from Own.lit EB_ok [c] rfl (by simp) (by unfold maxLen; simp) (by simp))
      have R1 := Lib.hid (show Fr Nil (w.alloc (.cells #[.int .i64 c, .bool true, .bool false, .int .i64 n, .slice A ids.length cp] 27)) ((w.alloc (.cells #[.int .i64 c, .bool true, .bool false, .int .i64 n, .slice A ids.length cp] 27)).alloc (.cells #[.int .u8 c] 5)) from (Fr.refl _ _).alloc _)
      have c0 := HB0.out.fr R1.out id |>.c5
      go_enter Try.func17, Try.ntmps17
      obtain ⟨d0, d1, d2, d3, d4, _⟩ := c0
      have O2 := Lib.hid (show Own EB (((w.alloc (.cells #[.int .i64 c, .bool true, .bool false, .int .i64 n, .slice A ids.length cp] 27)).alloc (.cells #[.int .u8 c] 5)).alloc (.cells #[.int .u8 1] 5)).drew (w.heap.size + 1) (.slice (some ⟨w.heap.size + 1, 0, none⟩) 1 1) [c] from O1.out.fr (S := Nil) (((Fr.refl _ _).alloc _).drew) (fun _ _ h => h))
      have R2 := Lib.hid (show Fr Nil (w.alloc (.cells #[.int .i64 c, .bool true, .bool false, .int .i64 n, .slice A ids.length cp] 27)) (((w.alloc (.cells #[.int .i64 c, .bool true, .bool false, .int .i64 n, .slice A ids.length cp] 27)).alloc (.cells #[.int .u8 c] 5)).alloc (.cells #[.int .u8 1] 5)).drew from (((Fr.refl _ _).alloc _).alloc _).drew)
      have Y2 := Lib.hid (show Come EB (((w.alloc (.cells #[.int .i64 c, .bool true, .bool false, .int .i64 n, .slice A ids.length cp] 27)).alloc (.cells #[.int .u8 c] 5)).alloc (.cells #[.int .u8 1] 5)).drew (.slice (some ⟨w.heap.size + 1 + 1, 0, none⟩) 1 1) [1] from Come.fr (one_b (w := ((w.alloc (.cells #[.int .i64 c, .bool true, .bool false, .int .i64 n, .slice A ids.length cp] 27)).alloc (.cells #[.int .u8 c] 5))) (g := w.heap.size + 1 + 1) 1 (by simp)) ((Fr.refl Nil _).drew))
      have KI := Lib.hid (fun W u h => Int_any ([c] ++ [1]) n u W (by omega) (by omega) (by simp) h)
      go_wp2_with fail
      generalize hv3 : (Value.slice (some ⟨w.heap.size + 1, 0, none⟩) 1 1) = v3 at O2 ⊢
      clear hv3
      go_region_held3 (fun w' => w'.cell? ⟨w.heap.size, 3, none⟩ = some (.int .i64 n)) (first | (go_keep; done) | assumption)
          (first | (rw [if_pos (by rfl)]; refine wp_app EB_ok (.tmp 24) (.tmp 25) 29 rfl rfl (w.heap.size + 1) _ _ [c] [1] rfl O2.out rfl Y2.out (by simp) (by simp) ?_; intro v4 w4 o4 f4 b4 n4; have F4 := Lib.hid (show Fr Nil (w.alloc (.cells #[.int .i64 c, .bool true, .bool false, .int .i64 n, .slice A ids.length cp] 27)) w4 from R2.out.then f4 (fun i hi hlt => absurd (O2.out.lt i hi).1 (by simp at hlt; omega))); have z4 := (HB0.out.fr F4.out id).cell 3) | (go_at_call 26; with_reducible refine (KI.out _ _ (Sl.come (Own.sl EB_ok o4))).mono ?_; rintro e w5 ⟨u5, rfl, f5, o5⟩; have F5 := Lib.hid (F4.out.trans f5); have z5 := (HB0.out.fr F5.out id).cell 3))
      all_goals
        have GH := Lib.hid (G0.out.trans F5.out)
        have HX0 := Lib.hid F5.out
        have UH := Lib.hid (o5.weaken (b' := w.heap.size + 1) (by have := F4.out.size; simp at this; omega))
        have HPT := Lib.hid (show ([c] ++ [1] ++ vint (fold n)) ++ deltas 0 ids = T by rw [← HTE.out]; simp)
        obtain ⟨z0, z1, z2, z3, z4, _⟩ := (HB0.out.fr F5.out id).c5
        clear o5 f5 o4 f4 b4 n4
        go_wp2_with fail
        have HF := Lib.hid GH.out
        have HTl := Lib.hid (show T.length ≤ 100000 by have := HTL.out; omega)
        have hsl := HS0.out.fr HX0.out
        rcases hsl with ⟨he, h0⟩ | ⟨g, o, cap, he, hc, ha, hr⟩
        · injection he with he1 he2 he3
          subst he1
          subst he3
          have hpre : ([c] ++ [1] ++ vint (fold n)) = T := by rw [← HPT.out, h0]; simp [deltas]
          subst hpre
          rw [h0]
          refine wp_loop_rounds 1 ?_
          rw [rounds_succ]
          go_wp2
          go_ret
          exact ⟨_, rfl, HF.out, UH.out.weaken (by omega)⟩
        · injection he with he1 he2 he3
          subst he1
          subst he3
          have HR := Lib.hid hr
          clear hr he2
          go_loopw [3, 4, 35] (fun v3 v4 i wr => ∃ (k : Nat) (pre : List Int) (last : Int), k ≤ ids.length ∧ i = .int .i64 k ∧ v4 = .int .i64 last ∧ Small last ∧ Own EB wr (w.heap.size + 1) v3 pre ∧ pre ++ deltas last (ids.drop k) = T ∧ Fr Nil w5 wr) (fun _ _ i _ => ids.length - (intOf i).toNat)
          case atStart => exact ⟨0, ([c] ++ [1] ++ vint (fold n)), 0, by omega, rfl, rfl, by unfold Small; omega, UH.out, HPT.out, Fr.refl _ _⟩
          case round =>
            obtain ⟨k, pre, last, hk, rfl, rfl, hsm, ho, hp, hf⟩ := hrel
            have HO := Lib.hid ho
            have HP := Lib.hid hp
            have HFr := Lib.hid hf
            have hk0 : (0 : Int) ≤ k := Int.natCast_nonneg k
            have hpl : pre.length ≤ 100000 := by
              have := congrArg List.length hp
              rw [List.length_append] at this
              have := HTl.out
              omega
            have hl0 : 0 ≤ last := hsm.1
            have hl1 : last ≤ 2147483647 := hsm.2
            clear ho hp hf hsm
            by_cases hlt : k < ids.length
            · have hlt' : (k : Int) < ids.length := by omega
              obtain ⟨x, hx⟩ : ∃ x, ids[k]? = some x := ⟨ids[k], List.getElem?_eq_getElem hlt⟩
              have c0 := row_at (HR.out.fr HFr.out ha id) hx
              have hxs := HSm.out x (List.mem_of_getElem? hx)
              have hx0 : 0 ≤ x := hxs.1
              have hx1 : x ≤ 2147483647 := hxs.2
              have HE := Lib.hid (deltas_step hx last)
              have KX := Lib.hid (Int_any pre (x - last) u3 wr (by omega) (by omega) hpl (HO.out.sl EB_ok).come)
              clear hx hxs hpl
              go_wp2_with fail
              refine KX.out.mono ?_
              rintro e w9 ⟨u9, rfl, hf9, ho9⟩
              have HF9 := Lib.hid hf9
              have HO9 := Lib.hid ho9
              clear hf9 ho9
              go_wp2_with fail
              go_roundw
              case rel => exact ⟨k + 1, _, x, by omega, by go_num, rfl, ⟨hx0, hx1⟩, HO9.out.weaken (by have := HFr.out.size; have := HX0.out.size; simp at this; omega), by rw [← HP.out, HE.out, List.append_assoc], HFr.out.trans HF9.out⟩
              case measure => simp [intOf]; omega
            · obtain rfl : k = ids.length := by omega
              have hpre : pre = T := by have := HP.out; rw [List.drop_length, deltas, List.append_nil] at this; exact this
              subst hpre
              go_wp2_with fail
              go_ret
              exact ⟨_, rfl, HF.out.trans HFr.out, HO.out.weaken (by omega)⟩
    | false =>
      have O1 := Lib.hid (show Own EB ((w.alloc (.cells #[.int .i64 c, .bool false, .bool false, .int .i64 n, .slice A ids.length cp] 27)).alloc (.cells #[.int .u8 c] 5)) (w.heap.size + 1) (.slice (some ⟨w.heap.size + 1, 0, none⟩) 1 1) [c] from Own.lit EB_ok [c] rfl (by simp) (by unfold maxLen; simp) (by simp))
      have R1 := Lib.hid (show Fr Nil (w.alloc (.cells #[.int .i64 c, .bool false, .bool false, .int .i64 n, .slice A ids.length cp] 27)) ((w.alloc (.cells #[.int .i64 c, .bool false, .bool false, .int .i64 n, .slice A ids.length cp] 27)).alloc (.cells #[.int .u8 c] 5)) from (Fr.refl _ _).alloc _)
      have c0 := HB0.out.fr R1.out id |>.c5
      go_enter Try.func17, Try.ntmps17
      have GH := Lib.hid (G0.out.trans R1.out)
      have HX0 := Lib.hid R1.out
      have UH := O1
      have HPT := Lib.hid (show [c] ++ deltas 0 ids = T by rw [← HTE.out]; simp)
      obtain ⟨z0, z1, z2, z3, z4, _⟩ := (HB0.out.fr R1.out id).c5
      go_wp2_with fail
      generalize ((w.alloc (.cells #[.int .i64 c, .bool false, .bool false, .int .i64 n, .slice A ids.length cp] 27)).alloc (.cells #[.int .u8 c] 5)) = w5 at GH HX0 UH z0 z1 z2 z3 z4 ⊢
      have HF := Lib.hid GH.out
      have HTl := Lib.hid (show T.length ≤ 100000 by have := HTL.out; omega)
      have hsl := HS0.out.fr HX0.out
      rcases hsl with ⟨he, h0⟩ | ⟨g, o, cap, he, hc, ha, hr⟩
      · injection he with he1 he2 he3
        subst he1
        subst he3
        have hpre : [c] = T := by rw [← HPT.out, h0]; simp [deltas]
        subst hpre
        rw [h0]
        refine wp_loop_rounds 1 ?_
        rw [rounds_succ]
        go_wp2
        go_ret
        exact ⟨_, rfl, HF.out, UH.out.weaken (by omega)⟩
      · injection he with he1 he2 he3
        subst he1
        subst he3
        have HR := Lib.hid hr
        clear hr he2
        go_loopw [3, 4, 35] (fun v3 v4 i wr => ∃ (k : Nat) (pre : List Int) (last : Int), k ≤ ids.length ∧ i = .int .i64 k ∧ v4 = .int .i64 last ∧ Small last ∧ Own EB wr (w.heap.size + 1) v3 pre ∧ pre ++ deltas last (ids.drop k) = T ∧ Fr Nil w5 wr) (fun _ _ i _ => ids.length - (intOf i).toNat)
        case atStart => exact ⟨0, [c], 0, by omega, rfl, rfl, by unfold Small; omega, UH.out, HPT.out, Fr.refl _ _⟩
        case round =>
          obtain ⟨k, pre, last, hk, rfl, rfl, hsm, ho, hp, hf⟩ := hrel
          have HO := Lib.hid ho
          have HP := Lib.hid hp
          have HFr := Lib.hid hf
          have hk0 : (0 : Int) ≤ k := Int.natCast_nonneg k
          have hpl : pre.length ≤ 100000 := by
            have := congrArg List.length hp
            rw [List.length_append] at this
            have := HTl.out
            omega
          have hl0 : 0 ≤ last := hsm.1
          have hl1 : last ≤ 2147483647 := hsm.2
          clear ho hp hf hsm
          by_cases hlt : k < ids.length
          · have hlt' : (k : Int) < ids.length := by omega
            obtain ⟨x, hx⟩ : ∃ x, ids[k]? = some x := ⟨ids[k], List.getElem?_eq_getElem hlt⟩
            have c0 := row_at (HR.out.fr HFr.out ha id) hx
            have hxs := HSm.out x (List.mem_of_getElem? hx)
            have hx0 : 0 ≤ x := hxs.1
            have hx1 : x ≤ 2147483647 := hxs.2
            have HE := Lib.hid (deltas_step hx last)
            have KX := Lib.hid (Int_any pre (x - last) u3 wr (by omega) (by omega) hpl (HO.out.sl EB_ok).come)
            clear hx hxs hpl
            go_wp2_with fail
            refine KX.out.mono ?_
            rintro e w9 ⟨u9, rfl, hf9, ho9⟩
            have HF9 := Lib.hid hf9
            have HO9 := Lib.hid ho9
            clear hf9 ho9
            go_wp2_with fail
            go_roundw
            case rel => exact ⟨k + 1, _, x, by omega, by go_num, rfl, ⟨hx0, hx1⟩, HO9.out.weaken (by have := HFr.out.size; have := HX0.out.size; simp at this; omega), by rw [← HP.out, HE.out, List.append_assoc], HFr.out.trans HF9.out⟩
            case measure => simp [intOf]; omega
          · obtain rfl : k = ids.length := by omega
            have hpre : pre = T := by have := HP.out; rw [List.drop_length, deltas, List.append_nil] at this; exact this
            subst hpre
            go_wp2_with fail
            go_ret
            exact ⟨_, rfl, HF.out.trans HFr.out, HO.out.weaken (by omega)⟩
end
end Go.Proofs.Ytfkjonpbopoiaaa.ReplyD
