/- Chapter 6: the reference's Take of a pool with room and none given. -/
import Derived.Test.YtemofdbepalnkaaPoolJ
import Derived.Test.YtemofdbepalnkaaHeldK
namespace Go.Proofs.Ytemofdbepalnkaa.PoolK
open Go.RowKit Base Slices Quiet PoolH PoolI PoolJ HeldK
set_option linter.unusedVariables false
set_option linter.unusedSimpArgs false

theorem own_vt {w : World} {v t : Value} {V : List Int} {T : List Bool} (h : Own EI w 0 v V) (h' : Own EB w 0 t T) {k : Nat} (hk : v.ownBlock = some k) : t.ownBlock ≠ some k := fun ht => by
  rcases h'.2 with ⟨rfl, _⟩ | ⟨g', cap, cur, rfl, _, hg, hr⟩
  · cases ht
  · simp [Value.ownBlock] at ht
    subst ht
    exact own_ne (t := EB.ty) h hg (by decide) hk rfl
theorem sl_none {E : El Int} {w w' : World} {v : Value} (h : Sl E w v []) (hs : w.heap.size ≤ w'.heap.size) : Sl E w' v [] := by
  rcases h with h | ⟨g, o, cap, rfl, hc, ha, hr⟩
  · exact Or.inl h
  · exact Or.inr ⟨g, o, cap, rfl, hc, Nat.lt_of_lt_of_le ha hs, fun j u hu => by simp [flat] at hu⟩
/-- how it ends, whichever store comes first -/
theorem new_end {w W W' : World} {x most : Nat} {vv tv gv v' t' : Value} {V V' : List Int} {T T' : List Bool} (h : RP w x vv tv gv V T [] most) (hX : Bk W x 39 #[vv, tv, gv, .int .i64 most]) (hV : Own EI W 0 v' V') (hT : Own EB W 0 t' T')
    (hf : Fr (RF x vv tv gv) w W) (bv : ∀ k, v'.ownBlock = some k → vv.ownBlock = some k ∨ w.heap.size ≤ k) (bt : ∀ k, t'.ownBlock = some k → tv.ownBlock = some k ∨ w.heap.size ≤ k)
    (hW : W' = (W.setCell ⟨x, 0, none⟩ v').setCell ⟨x, 1, none⟩ t' ∨ W' = (W.setCell ⟨x, 1, none⟩ t').setCell ⟨x, 0, none⟩ v') :
    Fr (RF x vv tv gv) w W' ∧ RH w x vv tv gv V' T' [] most W' := by
  have hb : Bk W' x 39 #[v', t', gv, .int .i64 most] := by
    rcases hW with rfl | rfl
    · exact (hX.put 0 v').put 1 t'
    · exact (hX.put 1 t').put 0 v'
  have hfx : Fr (fun j => j = x) W W' := by
    rcases hW with rfl | rfl
    · exact Fr.setCell (p := ⟨x, 1, none⟩) (Fr.setCell (p := ⟨x, 0, none⟩) (Fr.refl (fun j => j = x) W) (fun _ => rfl) _) (fun _ => rfl) _
    · exact Fr.setCell (p := ⟨x, 0, none⟩) (Fr.setCell (p := ⟨x, 1, none⟩) (Fr.refl (fun j => j = x) W) (fun _ => rfl) _) (fun _ => rfl) _
  have hall := hf.trans (hfx.mono fun j hj _ => Or.inl hj)
  refine ⟨hall, v', t', gv, ⟨hb, hV.fr hfx (fun j hj s => own_ne hV hX (by decide) hj s), hT.fr hfx (fun j hj s => own_ne hT hX (by decide) hj s), sl_none h.2.2.2.1 hall.size, fun k hk => ?_⟩, fun k hk => ?_⟩
  · have hkl := h.lt k (Or.inr (Or.inr (Or.inr hk)))
    obtain ⟨a1, a2, a3⟩ := h.2.2.2.2 k hk
    refine ⟨a1, fun e => ?_, fun e => ?_⟩
    · rcases bv k e with e' | e'
      · exact a2 e'
      · omega
    · rcases bt k e with e' | e'
      · exact a3 e'
      · omega
  · rcases hk with hk | hk | hk | hk
    · exact Or.inl (Or.inl hk)
    · exact (bv k hk).imp (fun e => Or.inr (Or.inl e)) id
    · exact (bt k hk).imp (fun e => Or.inr (Or.inr (Or.inl e))) id
    · exact Or.inl (Or.inr (Or.inr (Or.inr hk)))

section
variable (w : World)
set_option maxRecDepth 100000 in
set_option maxHeartbeats 16000000 in
theorem rTake_new {x : Nat} {vv tv gv : Value} {V : List Int} {T : List Bool} {most : Nat} {y : Int} (h : RP w x vv tv gv V T [] most) (hl : T.length ≤ 1000) (hV : V.length = T.length) (hm : nt T < most) :
    Calls Try.prog 28 #[.pointer (some ⟨x, 0, none⟩), .int .i64 y] w fun e w' => e = .returned (.tuple #[.int .i64 ((V.length : Int) + 1), .int .i64 0]) ∧ Fr (RF x vv tv gv) w w' ∧ RH w x vv tv gv (V ++ [y]) (T ++ [true]) [] most w' := by
  have KN := Lib.hid (fun W (hW : Fr Nil w W) => N_any W (h.nil hW) hl)
  have hm' : ((nt T : Nat) : Int) < (most : Int) := by omega
  have q3 := fun p : FrW Nil w => quiet_cell h.1 (S := Nil) id p 3
  simp only [show ((#[vv, tv, gv, .int .i64 most] : Array Value)[3]? = some (.int .i64 most)) from rfl] at q3
  have hV1 : V.length ≤ 1000 := by omega
  clear hV
  have H := Lib.hid h
  obtain ⟨Ag, cg, hgv⟩ := h.2.2.2.1.shape
  obtain ⟨Av, cv, hvv⟩ := (h.2.1.sl EI_ok).shape
  obtain ⟨At, ct, htv⟩ := (h.2.2.1.sl EB_ok).shape
  simp only [List.length_nil] at hgv
  subst hgv hvv htv
  clear h
  generalize nt T = n at *
  go_enter Try.func28, Try.ntmps28
  go_wp2_with fail
  refine wp_region_quiet_fr Nil (by kernel_rfl) (by kernel_rfl) ?_
  repeat (go_big_quiet_step (first
    | (go_at_call 12; with_reducible exact quiet_call (KN.out _ (FrW.fr _)))))
  refine wpQuiet_nil ?_
  intro w1 hw'
  obtain ⟨⟨wq, hfq⟩, hw''⟩ := hw'
  subst hw''
  clear q3
  have H1 := Lib.hid (H.out.nil hfq)
  have HF1 := Lib.hid hfq
  obtain ⟨c0, c1, c2, c3, _, _, f2, _⟩ := H1.out.1.c4
  clear hfq
  go_upto_region 8 with fail
  clear c0 c1 c2 c3 f2
  have fz0 : Fr (RF x (.slice Av V.length cv) (.slice At T.length ct) (.slice Ag 0 cg)) w1 w1.drew := (Fr.refl _ w1).drew
  have X0 := Lib.hid (H1.out.1.drew)
  have V0 := Lib.hid (H1.out.2.1.drew)
  have T0 := Lib.hid (H1.out.2.2.1.drew)
  have hs0 : w1.heap.size ≤ w1.drew.heap.size := fz0.size
  refine wp_region_K (S := fun w' => Bk w' x 39 #[(.slice Av V.length cv), (.slice At T.length ct), (.slice Ag 0 cg), .int .i64 most]) (St := [17, 20]) (by kernel_rfl) ?_
  change wpAnyK _ _ _ _ _ _ _ _ _ (World.drew _)
  refine wpAnyK_any (i := 0) (v := .pointer (some ⟨x, 0, none⟩)) rfl (by kernel_rfl) (by kernel_rfl) (by kernel_rfl) (by kernel_rfl) (fun _ _ _ h => h) (Or.inl ⟨by rfl, fun w' hw' => by first | (go_simp; done) | (go_simp; rfl)⟩) (fun _ => X0.out) ?_
  (try simp only [Act.put, List.getElem_toArray, List.getElem_cons_zero, List.getElem_cons_succ, List.setIfInBounds_toArray, List.set_cons_zero, List.set_cons_succ])
  refine wpAnyK_any (i := 1) (v := .pointer (some ⟨x, 0, none⟩)) rfl (by kernel_rfl) (by kernel_rfl) (by kernel_rfl) (by kernel_rfl) (fun _ _ _ h => h) (Or.inl ⟨by rfl, fun w' hw' => by first | (go_simp; done) | (go_simp; rfl)⟩) (fun _ => X0.out) ?_
  (try simp only [Act.put, List.getElem_toArray, List.getElem_cons_zero, List.getElem_cons_succ, List.setIfInBounds_toArray, List.set_cons_zero, List.set_cons_succ])
  refine wpAnyK_any (i := 2) (v := .pointer (some ⟨x, 0, none⟩)) rfl (by kernel_rfl) (by kernel_rfl) (by kernel_rfl) (by kernel_rfl) (fun _ _ _ h => h) (Or.inl ⟨by rfl, fun w' hw' => by first | (go_simp; done) | (go_simp; rfl)⟩) (fun _ => X0.out) ?_
  (try simp only [Act.put, List.getElem_toArray, List.getElem_cons_zero, List.getElem_cons_succ, List.setIfInBounds_toArray, List.set_cons_zero, List.set_cons_succ])
  refine wpAnyK_any (i := 3) (v := .pointer (some ⟨x, 0, none⟩)) rfl (by kernel_rfl) (by kernel_rfl) (by kernel_rfl) (by kernel_rfl) (fun _ _ _ h => h) (Or.inl ⟨by rfl, fun w' hw' => by first | (go_simp; done) | (go_simp; rfl)⟩) (fun _ => X0.out) ?_
  (try simp only [Act.put, List.getElem_toArray, List.getElem_cons_zero, List.getElem_cons_succ, List.setIfInBounds_toArray, List.set_cons_zero, List.set_cons_succ])
  refine wpAnyK_any (i := 4) (v := .pointer (some ⟨x, 0, none⟩)) rfl (by kernel_rfl) (by kernel_rfl) (by kernel_rfl) (by kernel_rfl) (fun _ _ _ h => h) (Or.inl ⟨by rfl, fun w' hw' => by first | (go_simp; done) | (go_simp; rfl)⟩) (fun _ => X0.out) ?_
  (try simp only [Act.put, List.getElem_toArray, List.getElem_cons_zero, List.getElem_cons_succ, List.setIfInBounds_toArray, List.set_cons_zero, List.set_cons_succ])
  refine wpAnyK_take (i := 5) (v := (.slice Av V.length cv)) rfl (by kernel_rfl) (by kernel_rfl) (by kernel_rfl) (by kernel_rfl) (by kernel_rfl) (by kernel_rfl) (fun _ _ _ h => h) (Or.inl ⟨by rfl, fun w' hw' => by obtain ⟨z0, z1, z2, z3, _, _, _, _⟩ := Bk.c4 hw'; first | (go_simp; done) | (go_simp; rfl)⟩) X0.out ?_
  (try simp only [Act.put, List.getElem_toArray, List.getElem_cons_zero, List.getElem_cons_succ, List.setIfInBounds_toArray, List.set_cons_zero, List.set_cons_succ])
  refine wpAnyK_any (i := 6) (v := .int .i64 y) rfl (by kernel_rfl) (by kernel_rfl) (by kernel_rfl) (by kernel_rfl) (fun _ _ _ h => h) (Or.inl ⟨by rfl, fun w' hw' => by first | (go_simp; done) | (go_simp; rfl)⟩) (fun _ => X0.out) ?_
  (try simp only [Act.put, List.getElem_toArray, List.getElem_cons_zero, List.getElem_cons_succ, List.setIfInBounds_toArray, List.set_cons_zero, List.set_cons_succ])
  refine wpAnyK_any (i := 9) (v := .pointer (some ⟨x, 0, none⟩)) rfl (by kernel_rfl) (by kernel_rfl) (by kernel_rfl) (by kernel_rfl) (fun _ _ _ h => h) (Or.inl ⟨by rfl, fun w' hw' => by first | (go_simp; done) | (go_simp; rfl)⟩) (fun _ => X0.out) ?_
  (try simp only [Act.put, List.getElem_toArray, List.getElem_cons_zero, List.getElem_cons_succ, List.setIfInBounds_toArray, List.set_cons_zero, List.set_cons_succ])
  refine wpAnyK_any (i := 10) (v := .pointer (some ⟨x, 0, none⟩)) rfl (by kernel_rfl) (by kernel_rfl) (by kernel_rfl) (by kernel_rfl) (fun _ _ _ h => h) (Or.inl ⟨by rfl, fun w' hw' => by first | (go_simp; done) | (go_simp; rfl)⟩) (fun _ => X0.out) ?_
  (try simp only [Act.put, List.getElem_toArray, List.getElem_cons_zero, List.getElem_cons_succ, List.setIfInBounds_toArray, List.set_cons_zero, List.set_cons_succ])
  refine wpAnyK_any (i := 11) (v := .pointer (some ⟨x, 1, none⟩)) rfl (by kernel_rfl) (by kernel_rfl) (by kernel_rfl) (by kernel_rfl) (fun _ _ _ h => h) (Or.inl ⟨by rfl, fun w' hw' => by first | (go_simp; done) | (go_simp; rfl)⟩) (fun _ => X0.out) ?_
  (try simp only [Act.put, List.getElem_toArray, List.getElem_cons_zero, List.getElem_cons_succ, List.setIfInBounds_toArray, List.set_cons_zero, List.set_cons_succ])
  refine wpAnyK_take (i := 12) (v := (.slice At T.length ct)) rfl (by kernel_rfl) (by kernel_rfl) (by kernel_rfl) (by kernel_rfl) (by kernel_rfl) (by kernel_rfl) (fun _ _ _ h => h) (Or.inl ⟨by rfl, fun w' hw' => by obtain ⟨z0, z1, z2, z3, _, _, _, _⟩ := Bk.c4 hw'; first | (go_simp; done) | (go_simp; rfl)⟩) X0.out ?_
  (try simp only [Act.put, List.getElem_toArray, List.getElem_cons_zero, List.getElem_cons_succ, List.setIfInBounds_toArray, List.set_cons_zero, List.set_cons_succ])
  have Fz := Lib.hid fz0
  refine wpAnyK_all (rs := [7, 13]) (by kernel_rfl) (by simp) (fun i hi => ?_)
  rcases (show i = 7 ∨ i = 13 by simpa using hi) with rfl | rfl
  · skip
    clear hi
    refine wpOp_step rfl (fun K hK => ?_)
    go_simp
    have X1 := Lib.hid (X0.out.alloc (.cells #[.int .i64 y] 3))
    have V1 := Lib.hid (V0.out.alloc (.cells #[.int .i64 y] 3))
    have T1 := Lib.hid (T0.out.alloc (.cells #[.int .i64 y] 3))
    have F1 := Lib.hid (Fz.out.alloc (.cells #[.int .i64 y] 3))
    have hg1 : w1.heap.size ≤ w1.heap.size := by have := Fz.out.size; (try simp at this); omega
    have C1 := Lib.hid ((lit_sl EI_ok [y] (w := w1.drew) (g := w1.heap.size) (cs := #[.int .i64 y]) rfl (by simp) 3).come)
    refine hK _ _ ⟨fun _ => X1.out, ?_⟩
    clear hK K
    (try simp only [Act.put, List.getElem_toArray, List.getElem_cons_zero, List.getElem_cons_succ, List.setIfInBounds_toArray, List.set_cons_zero, List.set_cons_succ])
    refine wpAnyK_all (rs := [8, 13]) (by kernel_rfl) (by simp) (fun i hi => ?_)
    rcases (show i = 8 ∨ i = 13 by simpa using hi) with rfl | rfl
    · skip
      clear hi
      refine wpOp_step rfl (fun K hK => ?_)
      rw [if_pos (by rfl)]
      refine wp_app EI_ok (.tmp 55) (.tmp 57) 36 rfl rfl 0 (.slice Av V.length cv) _ V [y] rfl V1.out rfl C1.out (by simp; omega) (Nat.zero_le _) ?_
      intro u2 W2 o2 g2 b2 m2
      obtain ⟨A2, d2, rfl⟩ : ∃ A d, u2 = Value.slice A (V.length + 1) d := (by obtain ⟨A, d, h⟩ := (o2.sl EI_ok).shape; exact ⟨A, d, h.trans (by simp)⟩)
      have X2 := Lib.hid (X1.out.fr g2 (fun s => own_ne V1.out X1.out (by decide) s rfl))
      have V2 := Lib.hid o2
      have T2 := Lib.hid (Own.fr T1.out g2 (fun j hj s => own_vt V1.out T1.out s hj))
      have F2 := Lib.hid (F1.out.trans (g2.mono fun j hj _ => (show RF x (.slice Av V.length cv) (.slice At T.length ct) (.slice Ag 0 cg) j from Or.inr (Or.inl hj))))
      have B2 := Lib.hid (show ∀ k, (Value.slice A2 (V.length + 1) d2).ownBlock = some k → (Value.slice Av V.length cv).ownBlock = some k ∨ w1.heap.size ≤ k from fun k hk => (b2 k hk).imp id (fun e => Nat.le_trans F1.out.size e))
      clear o2 g2 b2 m2
      refine hK _ _ ⟨fun _ => X2.out, ?_⟩
      clear hK K
      (try simp only [Act.put, List.getElem_toArray, List.getElem_cons_zero, List.getElem_cons_succ, List.setIfInBounds_toArray, List.set_cons_zero, List.set_cons_succ])
      refine wpAnyK_all (rs := [13]) (by kernel_rfl) (by simp) (fun i hi => ?_)
      obtain rfl : i = 13 := by simpa using hi
      clear hi
      refine wpOp_step rfl (fun K hK => ?_)
      go_simp
      have X3 := Lib.hid (X2.out.alloc (.cells #[.bool true] 4))
      have V3 := Lib.hid (V2.out.alloc (.cells #[.bool true] 4))
      have T3 := Lib.hid (T2.out.alloc (.cells #[.bool true] 4))
      have F3 := Lib.hid (F2.out.alloc (.cells #[.bool true] 4))
      have hg3 : w1.heap.size ≤ W2.heap.size := by have := F2.out.size; (try simp at this); omega
      have C3 := Lib.hid ((lit_sl EB_ok [true] (w := W2) (g := W2.heap.size) (cs := #[.bool true]) rfl (by simp) 4).come)
      refine hK _ _ ⟨fun _ => X3.out, ?_⟩
      clear hK K
      (try simp only [Act.put, List.getElem_toArray, List.getElem_cons_zero, List.getElem_cons_succ, List.setIfInBounds_toArray, List.set_cons_zero, List.set_cons_succ])
      refine wpAnyK_all (rs := [14]) (by kernel_rfl) (by simp) (fun i hi => ?_)
      obtain rfl : i = 14 := by simpa using hi
      clear hi
      refine wpOp_step rfl (fun K hK => ?_)
      rw [if_pos (by rfl)]
      refine wp_app EB_ok (.tmp 62) (.tmp 63) 37 rfl rfl 0 ((.slice At T.length ct)) _ T [true] rfl T3.out rfl C3.out (by simp; omega) (Nat.zero_le _) ?_
      intro u4 W4 o4 g4 b4 m4
      obtain ⟨A4, d4, rfl⟩ : ∃ A d, u4 = Value.slice A (T.length + 1) d := (by obtain ⟨A, d, h⟩ := (o4.sl EB_ok).shape; exact ⟨A, d, h.trans (by simp)⟩)
      have X4 := Lib.hid (X3.out.fr g4 (fun s => own_ne T3.out X3.out (by decide) s rfl))
      have T4 := Lib.hid o4
      have V4 := Lib.hid (Own.fr V3.out g4 (fun j hj s => own_vt V3.out T3.out hj s))
      have F4 := Lib.hid (F3.out.trans (g4.mono fun j hj _ => (show RF x (.slice Av V.length cv) (.slice At T.length ct) (.slice Ag 0 cg) j from Or.inr (Or.inr (Or.inl hj)))))
      have B4 := Lib.hid (show ∀ k, (Value.slice A4 (T.length + 1) d4).ownBlock = some k → (Value.slice At T.length ct).ownBlock = some k ∨ w1.heap.size ≤ k from fun k hk => (b4 k hk).imp id (fun e => Nat.le_trans F3.out.size e))
      clear o4 g4 b4 m4
      refine hK _ _ ⟨fun _ => X4.out, ?_⟩
      clear hK K
      (try simp only [Act.put, List.getElem_toArray, List.getElem_cons_zero, List.getElem_cons_succ, List.setIfInBounds_toArray, List.set_cons_zero, List.set_cons_succ])
      obtain ⟨c0, c1, c2, c3, f0, f1, _, _⟩ := X4.out.c4
      refine wpAnyK_any (i := 15) (v := .pointer (some ⟨x, 0, none⟩)) rfl (by kernel_rfl) (by kernel_rfl) (by kernel_rfl) (by kernel_rfl) (fun _ _ _ h => h) (Or.inl ⟨by rfl, fun w' hw' => by first | (go_simp; done) | (go_simp; rfl)⟩) (fun _ => X4.out) ?_
      (try simp only [Act.put, List.getElem_toArray, List.getElem_cons_zero, List.getElem_cons_succ, List.setIfInBounds_toArray, List.set_cons_zero, List.set_cons_succ])
      refine wpAnyK_any (i := 16) (v := .pointer (some ⟨x, 0, none⟩)) rfl (by kernel_rfl) (by kernel_rfl) (by kernel_rfl) (by kernel_rfl) (fun _ _ _ h => h) (Or.inl ⟨by rfl, fun w' hw' => by first | (go_simp; done) | (go_simp; rfl)⟩) (fun _ => X4.out) ?_
      (try simp only [Act.put, List.getElem_toArray, List.getElem_cons_zero, List.getElem_cons_succ, List.setIfInBounds_toArray, List.set_cons_zero, List.set_cons_succ])
      refine wpAnyK_all (rs := [17]) (by kernel_rfl) (by simp) (fun i hi => ?_)
      obtain rfl : i = 17 := by simpa using hi
      clear hi
      refine wpOp_step rfl (fun K hK => ?_)
      go_simp
      refine hK _ _ ⟨fun hfr => absurd (hfr 17 (by simp)) (by decide), ?_⟩
      clear hK K
      (try simp only [Act.put, List.getElem_toArray, List.getElem_cons_zero, List.getElem_cons_succ, List.setIfInBounds_toArray, List.set_cons_zero, List.set_cons_succ])
      refine wpAnyK_any (i := 18) (v := .pointer (some ⟨x, 0, none⟩)) rfl (by kernel_rfl) (by kernel_rfl) (by kernel_rfl) (by kernel_rfl) (fun _ _ _ h => h) (Or.inl ⟨by rfl, fun w' hw' => by first | (go_simp; done) | (go_simp; rfl)⟩) (fun hfr => absurd (hfr 17 (by simp)) (by decide)) ?_
      (try simp only [Act.put, List.getElem_toArray, List.getElem_cons_zero, List.getElem_cons_succ, List.setIfInBounds_toArray, List.set_cons_zero, List.set_cons_succ])
      refine wpAnyK_any (i := 19) (v := .pointer (some ⟨x, 1, none⟩)) rfl (by kernel_rfl) (by kernel_rfl) (by kernel_rfl) (by kernel_rfl) (fun _ _ _ h => h) (Or.inl ⟨by rfl, fun w' hw' => by first | (go_simp; done) | (go_simp; rfl)⟩) (fun hfr => absurd (hfr 17 (by simp)) (by decide)) ?_
      (try simp only [Act.put, List.getElem_toArray, List.getElem_cons_zero, List.getElem_cons_succ, List.setIfInBounds_toArray, List.set_cons_zero, List.set_cons_succ])
      refine wpAnyK_all (rs := [20]) (by kernel_rfl) (by simp) (fun i hi => ?_)
      obtain rfl : i = 20 := by simpa using hi
      clear hi
      refine wpOp_step rfl (fun K hK => ?_)
      go_simp
      refine hK _ _ ⟨fun hfr => absurd (hfr 17 (by simp)) (by decide), ?_⟩
      clear hK K
      (try simp only [Act.put, List.getElem_toArray, List.getElem_cons_zero, List.getElem_cons_succ, List.setIfInBounds_toArray, List.set_cons_zero, List.set_cons_succ])
      refine wpAnyK_done (by kernel_rfl) ?_ _
      have fin := Lib.hid (new_end H1.out X4.out V4.out T4.out F4.out B2.out B4.out (Or.inl rfl))
      go_wp2_with fail
      refine bodyPost_ret (v := .tuple #[.int .i64 ((V.length : Int) + 1), .int .i64 0]) (by simp [results, Try.results28, go_sem]) rfl ⟨rfl, HF1.out.of_nil.trans fin.out.1, ?_⟩
      obtain ⟨a1, a2, a3, a4, a5⟩ := fin.out.2
      exact ⟨a1, a2, a3, a4, fun k hk => (a5 k hk).imp id (fun e => Nat.le_trans HF1.out.size e)⟩
    · skip
      clear hi
      refine wpOp_step rfl (fun K hK => ?_)
      go_simp
      have X5 := Lib.hid (X1.out.alloc (.cells #[.bool true] 4))
      have V5 := Lib.hid (V1.out.alloc (.cells #[.bool true] 4))
      have T5 := Lib.hid (T1.out.alloc (.cells #[.bool true] 4))
      have F5 := Lib.hid (F1.out.alloc (.cells #[.bool true] 4))
      have hg5 : w1.heap.size ≤ w1.heap.size + 1 := by have := F1.out.size; (try simp at this); omega
      have C5 := Lib.hid ((lit_sl EB_ok [true] (w := (w1.drew.alloc (.cells #[.int .i64 y] 3))) (g := w1.heap.size + 1) (cs := #[.bool true]) rfl (by simp) 4).come)
      have D5 := Lib.hid (C1.out.fr ((Fr.refl Nil (w1.drew.alloc (.cells #[.int .i64 y] 3))).alloc (.cells #[.bool true] 4)))
      refine hK _ _ ⟨fun _ => X5.out, ?_⟩
      clear hK K
      (try simp only [Act.put, List.getElem_toArray, List.getElem_cons_zero, List.getElem_cons_succ, List.setIfInBounds_toArray, List.set_cons_zero, List.set_cons_succ])
      refine wpAnyK_all (rs := [8]) (by kernel_rfl) (by simp) (fun i hi => ?_)
      obtain rfl : i = 8 := by simpa using hi
      clear hi
      refine wpOp_step rfl (fun K hK => ?_)
      rw [if_pos (by rfl)]
      refine wp_app EI_ok (.tmp 55) (.tmp 57) 36 rfl rfl 0 (.slice Av V.length cv) _ V [y] rfl V5.out rfl D5.out (by simp; omega) (Nat.zero_le _) ?_
      intro u6 W6 o6 g6 b6 m6
      obtain ⟨A6, d6, rfl⟩ : ∃ A d, u6 = Value.slice A (V.length + 1) d := (by obtain ⟨A, d, h⟩ := (o6.sl EI_ok).shape; exact ⟨A, d, h.trans (by simp)⟩)
      have X6 := Lib.hid (X5.out.fr g6 (fun s => own_ne V5.out X5.out (by decide) s rfl))
      have V6 := Lib.hid o6
      have T6 := Lib.hid (Own.fr T5.out g6 (fun j hj s => own_vt V5.out T5.out s hj))
      have F6 := Lib.hid (F5.out.trans (g6.mono fun j hj _ => (show RF x (.slice Av V.length cv) (.slice At T.length ct) (.slice Ag 0 cg) j from Or.inr (Or.inl hj))))
      have B6 := Lib.hid (show ∀ k, (Value.slice A6 (V.length + 1) d6).ownBlock = some k → (Value.slice Av V.length cv).ownBlock = some k ∨ w1.heap.size ≤ k from fun k hk => (b6 k hk).imp id (fun e => Nat.le_trans F5.out.size e))
      have D6 := Lib.hid (C5.out.frS g6 (fun j hj s => by have h1 := (V0.out.lt j s).2; have h2 := Option.some.inj hj; (try simp at h1); (try dsimp only at h2); omega))
      clear o6 g6 b6 m6
      refine hK _ _ ⟨fun _ => X6.out, ?_⟩
      clear hK K
      (try simp only [Act.put, List.getElem_toArray, List.getElem_cons_zero, List.getElem_cons_succ, List.setIfInBounds_toArray, List.set_cons_zero, List.set_cons_succ])
      refine wpAnyK_all (rs := [14]) (by kernel_rfl) (by simp) (fun i hi => ?_)
      obtain rfl : i = 14 := by simpa using hi
      clear hi
      refine wpOp_step rfl (fun K hK => ?_)
      rw [if_pos (by rfl)]
      refine wp_app EB_ok (.tmp 62) (.tmp 63) 37 rfl rfl 0 ((.slice At T.length ct)) _ T [true] rfl T6.out rfl D6.out (by simp; omega) (Nat.zero_le _) ?_
      intro u7 W7 o7 g7 b7 m7
      obtain ⟨A7, d7, rfl⟩ : ∃ A d, u7 = Value.slice A (T.length + 1) d := (by obtain ⟨A, d, h⟩ := (o7.sl EB_ok).shape; exact ⟨A, d, h.trans (by simp)⟩)
      have X7 := Lib.hid (X6.out.fr g7 (fun s => own_ne T6.out X6.out (by decide) s rfl))
      have T7 := Lib.hid o7
      have V7 := Lib.hid (Own.fr V6.out g7 (fun j hj s => own_vt V6.out T6.out hj s))
      have F7 := Lib.hid (F6.out.trans (g7.mono fun j hj _ => (show RF x (.slice Av V.length cv) (.slice At T.length ct) (.slice Ag 0 cg) j from Or.inr (Or.inr (Or.inl hj)))))
      have B7 := Lib.hid (show ∀ k, (Value.slice A7 (T.length + 1) d7).ownBlock = some k → (Value.slice At T.length ct).ownBlock = some k ∨ w1.heap.size ≤ k from fun k hk => (b7 k hk).imp id (fun e => Nat.le_trans F6.out.size e))
      clear o7 g7 b7 m7
      refine hK _ _ ⟨fun _ => X7.out, ?_⟩
      clear hK K
      (try simp only [Act.put, List.getElem_toArray, List.getElem_cons_zero, List.getElem_cons_succ, List.setIfInBounds_toArray, List.set_cons_zero, List.set_cons_succ])
      obtain ⟨c0, c1, c2, c3, f0, f1, _, _⟩ := X7.out.c4
      refine wpAnyK_any (i := 15) (v := .pointer (some ⟨x, 0, none⟩)) rfl (by kernel_rfl) (by kernel_rfl) (by kernel_rfl) (by kernel_rfl) (fun _ _ _ h => h) (Or.inl ⟨by rfl, fun w' hw' => by first | (go_simp; done) | (go_simp; rfl)⟩) (fun _ => X7.out) ?_
      (try simp only [Act.put, List.getElem_toArray, List.getElem_cons_zero, List.getElem_cons_succ, List.setIfInBounds_toArray, List.set_cons_zero, List.set_cons_succ])
      refine wpAnyK_any (i := 16) (v := .pointer (some ⟨x, 0, none⟩)) rfl (by kernel_rfl) (by kernel_rfl) (by kernel_rfl) (by kernel_rfl) (fun _ _ _ h => h) (Or.inl ⟨by rfl, fun w' hw' => by first | (go_simp; done) | (go_simp; rfl)⟩) (fun _ => X7.out) ?_
      (try simp only [Act.put, List.getElem_toArray, List.getElem_cons_zero, List.getElem_cons_succ, List.setIfInBounds_toArray, List.set_cons_zero, List.set_cons_succ])
      refine wpAnyK_all (rs := [17]) (by kernel_rfl) (by simp) (fun i hi => ?_)
      obtain rfl : i = 17 := by simpa using hi
      clear hi
      refine wpOp_step rfl (fun K hK => ?_)
      go_simp
      refine hK _ _ ⟨fun hfr => absurd (hfr 17 (by simp)) (by decide), ?_⟩
      clear hK K
      (try simp only [Act.put, List.getElem_toArray, List.getElem_cons_zero, List.getElem_cons_succ, List.setIfInBounds_toArray, List.set_cons_zero, List.set_cons_succ])
      refine wpAnyK_any (i := 18) (v := .pointer (some ⟨x, 0, none⟩)) rfl (by kernel_rfl) (by kernel_rfl) (by kernel_rfl) (by kernel_rfl) (fun _ _ _ h => h) (Or.inl ⟨by rfl, fun w' hw' => by first | (go_simp; done) | (go_simp; rfl)⟩) (fun hfr => absurd (hfr 17 (by simp)) (by decide)) ?_
      (try simp only [Act.put, List.getElem_toArray, List.getElem_cons_zero, List.getElem_cons_succ, List.setIfInBounds_toArray, List.set_cons_zero, List.set_cons_succ])
      refine wpAnyK_any (i := 19) (v := .pointer (some ⟨x, 1, none⟩)) rfl (by kernel_rfl) (by kernel_rfl) (by kernel_rfl) (by kernel_rfl) (fun _ _ _ h => h) (Or.inl ⟨by rfl, fun w' hw' => by first | (go_simp; done) | (go_simp; rfl)⟩) (fun hfr => absurd (hfr 17 (by simp)) (by decide)) ?_
      (try simp only [Act.put, List.getElem_toArray, List.getElem_cons_zero, List.getElem_cons_succ, List.setIfInBounds_toArray, List.set_cons_zero, List.set_cons_succ])
      refine wpAnyK_all (rs := [20]) (by kernel_rfl) (by simp) (fun i hi => ?_)
      obtain rfl : i = 20 := by simpa using hi
      clear hi
      refine wpOp_step rfl (fun K hK => ?_)
      go_simp
      refine hK _ _ ⟨fun hfr => absurd (hfr 17 (by simp)) (by decide), ?_⟩
      clear hK K
      (try simp only [Act.put, List.getElem_toArray, List.getElem_cons_zero, List.getElem_cons_succ, List.setIfInBounds_toArray, List.set_cons_zero, List.set_cons_succ])
      refine wpAnyK_done (by kernel_rfl) ?_ _
      have fin := Lib.hid (new_end H1.out X7.out V7.out T7.out F7.out B6.out B7.out (Or.inl rfl))
      go_wp2_with fail
      refine bodyPost_ret (v := .tuple #[.int .i64 ((V.length : Int) + 1), .int .i64 0]) (by simp [results, Try.results28, go_sem]) rfl ⟨rfl, HF1.out.of_nil.trans fin.out.1, ?_⟩
      obtain ⟨a1, a2, a3, a4, a5⟩ := fin.out.2
      exact ⟨a1, a2, a3, a4, fun k hk => (a5 k hk).imp id (fun e => Nat.le_trans HF1.out.size e)⟩
  · skip
    clear hi
    refine wpOp_step rfl (fun K hK => ?_)
    go_simp
    have X8 := Lib.hid (X0.out.alloc (.cells #[.bool true] 4))
    have V8 := Lib.hid (V0.out.alloc (.cells #[.bool true] 4))
    have T8 := Lib.hid (T0.out.alloc (.cells #[.bool true] 4))
    have F8 := Lib.hid (Fz.out.alloc (.cells #[.bool true] 4))
    have hg8 : w1.heap.size ≤ w1.heap.size := by have := Fz.out.size; (try simp at this); omega
    have C8 := Lib.hid ((lit_sl EB_ok [true] (w := w1.drew) (g := w1.heap.size) (cs := #[.bool true]) rfl (by simp) 4).come)
    refine hK _ _ ⟨fun _ => X8.out, ?_⟩
    clear hK K
    (try simp only [Act.put, List.getElem_toArray, List.getElem_cons_zero, List.getElem_cons_succ, List.setIfInBounds_toArray, List.set_cons_zero, List.set_cons_succ])
    refine wpAnyK_all (rs := [7]) (by kernel_rfl) (by simp) (fun i hi => ?_)
    obtain rfl : i = 7 := by simpa using hi
    clear hi
    refine wpOp_step rfl (fun K hK => ?_)
    go_simp
    have X9 := Lib.hid (X8.out.alloc (.cells #[.int .i64 y] 3))
    have V9 := Lib.hid (V8.out.alloc (.cells #[.int .i64 y] 3))
    have T9 := Lib.hid (T8.out.alloc (.cells #[.int .i64 y] 3))
    have F9 := Lib.hid (F8.out.alloc (.cells #[.int .i64 y] 3))
    have hg9 : w1.heap.size ≤ w1.heap.size + 1 := by have := F8.out.size; (try simp at this); omega
    have C9 := Lib.hid ((lit_sl EI_ok [y] (w := (w1.drew.alloc (.cells #[.bool true] 4))) (g := w1.heap.size + 1) (cs := #[.int .i64 y]) rfl (by simp) 3).come)
    have D9 := Lib.hid (C8.out.fr ((Fr.refl Nil (w1.drew.alloc (.cells #[.bool true] 4))).alloc (.cells #[.int .i64 y] 3)))
    refine hK _ _ ⟨fun _ => X9.out, ?_⟩
    clear hK K
    (try simp only [Act.put, List.getElem_toArray, List.getElem_cons_zero, List.getElem_cons_succ, List.setIfInBounds_toArray, List.set_cons_zero, List.set_cons_succ])
    refine wpAnyK_all (rs := [8]) (by kernel_rfl) (by simp) (fun i hi => ?_)
    obtain rfl : i = 8 := by simpa using hi
    clear hi
    refine wpOp_step rfl (fun K hK => ?_)
    rw [if_pos (by rfl)]
    refine wp_app EI_ok (.tmp 55) (.tmp 57) 36 rfl rfl 0 (.slice Av V.length cv) _ V [y] rfl V9.out rfl C9.out (by simp; omega) (Nat.zero_le _) ?_
    intro u10 W10 o10 g10 b10 m10
    obtain ⟨A10, d10, rfl⟩ : ∃ A d, u10 = Value.slice A (V.length + 1) d := (by obtain ⟨A, d, h⟩ := (o10.sl EI_ok).shape; exact ⟨A, d, h.trans (by simp)⟩)
    have X10 := Lib.hid (X9.out.fr g10 (fun s => own_ne V9.out X9.out (by decide) s rfl))
    have V10 := Lib.hid o10
    have T10 := Lib.hid (Own.fr T9.out g10 (fun j hj s => own_vt V9.out T9.out s hj))
    have F10 := Lib.hid (F9.out.trans (g10.mono fun j hj _ => (show RF x (.slice Av V.length cv) (.slice At T.length ct) (.slice Ag 0 cg) j from Or.inr (Or.inl hj))))
    have B10 := Lib.hid (show ∀ k, (Value.slice A10 (V.length + 1) d10).ownBlock = some k → (Value.slice Av V.length cv).ownBlock = some k ∨ w1.heap.size ≤ k from fun k hk => (b10 k hk).imp id (fun e => Nat.le_trans F9.out.size e))
    have D10 := Lib.hid (D9.out.frS g10 (fun j hj s => by have h1 := (V0.out.lt j s).2; have h2 := Option.some.inj hj; (try simp at h1); (try dsimp only at h2); omega))
    clear o10 g10 b10 m10
    refine hK _ _ ⟨fun _ => X10.out, ?_⟩
    clear hK K
    (try simp only [Act.put, List.getElem_toArray, List.getElem_cons_zero, List.getElem_cons_succ, List.setIfInBounds_toArray, List.set_cons_zero, List.set_cons_succ])
    refine wpAnyK_all (rs := [14]) (by kernel_rfl) (by simp) (fun i hi => ?_)
    obtain rfl : i = 14 := by simpa using hi
    clear hi
    refine wpOp_step rfl (fun K hK => ?_)
    rw [if_pos (by rfl)]
    refine wp_app EB_ok (.tmp 62) (.tmp 63) 37 rfl rfl 0 ((.slice At T.length ct)) _ T [true] rfl T10.out rfl D10.out (by simp; omega) (Nat.zero_le _) ?_
    intro u11 W11 o11 g11 b11 m11
    obtain ⟨A11, d11, rfl⟩ : ∃ A d, u11 = Value.slice A (T.length + 1) d := (by obtain ⟨A, d, h⟩ := (o11.sl EB_ok).shape; exact ⟨A, d, h.trans (by simp)⟩)
    have X11 := Lib.hid (X10.out.fr g11 (fun s => own_ne T10.out X10.out (by decide) s rfl))
    have T11 := Lib.hid o11
    have V11 := Lib.hid (Own.fr V10.out g11 (fun j hj s => own_vt V10.out T10.out hj s))
    have F11 := Lib.hid (F10.out.trans (g11.mono fun j hj _ => (show RF x (.slice Av V.length cv) (.slice At T.length ct) (.slice Ag 0 cg) j from Or.inr (Or.inr (Or.inl hj)))))
    have B11 := Lib.hid (show ∀ k, (Value.slice A11 (T.length + 1) d11).ownBlock = some k → (Value.slice At T.length ct).ownBlock = some k ∨ w1.heap.size ≤ k from fun k hk => (b11 k hk).imp id (fun e => Nat.le_trans F10.out.size e))
    clear o11 g11 b11 m11
    refine hK _ _ ⟨fun _ => X11.out, ?_⟩
    clear hK K
    (try simp only [Act.put, List.getElem_toArray, List.getElem_cons_zero, List.getElem_cons_succ, List.setIfInBounds_toArray, List.set_cons_zero, List.set_cons_succ])
    obtain ⟨c0, c1, c2, c3, f0, f1, _, _⟩ := X11.out.c4
    refine wpAnyK_any (i := 15) (v := .pointer (some ⟨x, 0, none⟩)) rfl (by kernel_rfl) (by kernel_rfl) (by kernel_rfl) (by kernel_rfl) (fun _ _ _ h => h) (Or.inl ⟨by rfl, fun w' hw' => by first | (go_simp; done) | (go_simp; rfl)⟩) (fun _ => X11.out) ?_
    (try simp only [Act.put, List.getElem_toArray, List.getElem_cons_zero, List.getElem_cons_succ, List.setIfInBounds_toArray, List.set_cons_zero, List.set_cons_succ])
    refine wpAnyK_any (i := 16) (v := .pointer (some ⟨x, 0, none⟩)) rfl (by kernel_rfl) (by kernel_rfl) (by kernel_rfl) (by kernel_rfl) (fun _ _ _ h => h) (Or.inl ⟨by rfl, fun w' hw' => by first | (go_simp; done) | (go_simp; rfl)⟩) (fun _ => X11.out) ?_
    (try simp only [Act.put, List.getElem_toArray, List.getElem_cons_zero, List.getElem_cons_succ, List.setIfInBounds_toArray, List.set_cons_zero, List.set_cons_succ])
    refine wpAnyK_all (rs := [17]) (by kernel_rfl) (by simp) (fun i hi => ?_)
    obtain rfl : i = 17 := by simpa using hi
    clear hi
    refine wpOp_step rfl (fun K hK => ?_)
    go_simp
    refine hK _ _ ⟨fun hfr => absurd (hfr 17 (by simp)) (by decide), ?_⟩
    clear hK K
    (try simp only [Act.put, List.getElem_toArray, List.getElem_cons_zero, List.getElem_cons_succ, List.setIfInBounds_toArray, List.set_cons_zero, List.set_cons_succ])
    refine wpAnyK_any (i := 18) (v := .pointer (some ⟨x, 0, none⟩)) rfl (by kernel_rfl) (by kernel_rfl) (by kernel_rfl) (by kernel_rfl) (fun _ _ _ h => h) (Or.inl ⟨by rfl, fun w' hw' => by first | (go_simp; done) | (go_simp; rfl)⟩) (fun hfr => absurd (hfr 17 (by simp)) (by decide)) ?_
    (try simp only [Act.put, List.getElem_toArray, List.getElem_cons_zero, List.getElem_cons_succ, List.setIfInBounds_toArray, List.set_cons_zero, List.set_cons_succ])
    refine wpAnyK_any (i := 19) (v := .pointer (some ⟨x, 1, none⟩)) rfl (by kernel_rfl) (by kernel_rfl) (by kernel_rfl) (by kernel_rfl) (fun _ _ _ h => h) (Or.inl ⟨by rfl, fun w' hw' => by first | (go_simp; done) | (go_simp; rfl)⟩) (fun hfr => absurd (hfr 17 (by simp)) (by decide)) ?_
    (try simp only [Act.put, List.getElem_toArray, List.getElem_cons_zero, List.getElem_cons_succ, List.setIfInBounds_toArray, List.set_cons_zero, List.set_cons_succ])
    refine wpAnyK_all (rs := [20]) (by kernel_rfl) (by simp) (fun i hi => ?_)
    obtain rfl : i = 20 := by simpa using hi
    clear hi
    refine wpOp_step rfl (fun K hK => ?_)
    go_simp
    refine hK _ _ ⟨fun hfr => absurd (hfr 17 (by simp)) (by decide), ?_⟩
    clear hK K
    (try simp only [Act.put, List.getElem_toArray, List.getElem_cons_zero, List.getElem_cons_succ, List.setIfInBounds_toArray, List.set_cons_zero, List.set_cons_succ])
    refine wpAnyK_done (by kernel_rfl) ?_ _
    have fin := Lib.hid (new_end H1.out X11.out V11.out T11.out F11.out B10.out B11.out (Or.inl rfl))
    go_wp2_with fail
    refine bodyPost_ret (v := .tuple #[.int .i64 ((V.length : Int) + 1), .int .i64 0]) (by simp [results, Try.results28, go_sem]) rfl ⟨rfl, HF1.out.of_nil.trans fin.out.1, ?_⟩
    obtain ⟨a1, a2, a3, a4, a5⟩ := fin.out.2
    exact ⟨a1, a2, a3, a4, fun k hk => (a5 k hk).imp id (fun e => Nat.le_trans HF1.out.size e)⟩
end
end Go.Proofs.Ytemofdbepalnkaa.PoolK
