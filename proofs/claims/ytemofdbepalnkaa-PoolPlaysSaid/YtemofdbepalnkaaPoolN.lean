/- Chapter 6: a pool and the reference's side by side; the walk of does. -/
import Derived.Test.YtemofdbepalnkaaPoolM
import Derived.Test.YtemofdbepalnkaaPoolF
namespace Go.Proofs.Ytemofdbepalnkaa.PoolN
open Go.RowKit Base Slices Quiet PoolA PoolB PoolC PoolD PoolE PoolG PoolH PoolI PoolJ PoolK PoolL PoolM
set_option linter.unusedVariables false
set_option linter.unusedSimpArgs false

/-- the two lie apart, each within D -/
def Ap (D : Nat → Prop) (g : Nat) (v : Value) (x : Nat) (vv tv gv : Value) : Prop := (∀ k, RF x vv tv gv k → ¬ Foot g v k) ∧ (∀ k, RF x vv tv gv k → D k) ∧ ∀ k, Foot g v k → D k
/-- both, side by side -/
def Tw (D : Nat → Prop) (w : World) (g x : Nat) (l : List Slot) (f n : Int) (V : List Int) (T : List Bool) (G : List Int) (most : Nat) : Prop :=
  ∃ v vv tv gv, Pl w g v l f n most ∧ RP w x vv tv gv V T G most ∧ Ap D g v x vv tv gv

section
variable {D : Nat → Prop} {w w' : World} {g x : Nat} {l l' : List Slot} {f n f' n' : Int} {V V' : List Int} {T T' : List Bool} {G G' : List Int} {most : Nat} {F : FuncId} {args : Array Value} {r : Ending}
theorem Tw.nil (h : Tw D w g x l f n V T G most) (hf : Fr Nil w w') : Tw D w' g x l f n V T G most := by
  obtain ⟨v, vv, tv, gv, h1, h2, h3⟩ := h
  exact ⟨v, vv, tv, gv, h1.nil hf, h2.nil hf, h3⟩
theorem Tw.mono {D' : Nat → Prop} (h : Tw D w g x l f n V T G most) (hD : ∀ k, D k → D' k) : Tw D' w g x l f n V T G most := by
  obtain ⟨v, vv, tv, gv, h1, h2, h3, h4, h5⟩ := h
  exact ⟨v, vv, tv, gv, h1, h2, h3, fun k hk => hD k (h4 k hk), fun k hk => hD k (h5 k hk)⟩
theorem Tw.box {base : Nat} (h : Tw (fun k => base ≤ k) w g x l f n V T G most) (o : Obj) : Tw (fun k => base ≤ k ∧ k ≠ w.heap.size) (w.alloc o) g x l f n V T G most := by
  obtain ⟨v, vv, tv, gv, h1, h2, h3, h4, h5⟩ := h
  refine ⟨v, vv, tv, gv, h1.nil ((Fr.refl Nil w).alloc o), h2.nil ((Fr.refl Nil w).alloc o), h3, fun k hk => ⟨h4 k hk, fun e => ?_⟩, fun k hk => ⟨h5 k hk, fun e => ?_⟩⟩
  · have := h2.lt k hk; omega
  · have := h1.lt k hk; omega
theorem Tw.pool (h : Tw D w g x l f n V T G most) (hD : ∀ k, w.heap.size ≤ k → D k) (hc : ∀ v, Pl w g v l f n most → Calls Try.prog F args w fun e w' => e = r ∧ Fr (Foot g v) w w' ∧ Held w g v l' f' n' most w') :
    Calls Try.prog F args w fun e w' => e = r ∧ Fr D w w' ∧ Tw D w' g x l' f' n' V T G most := by
  obtain ⟨v, vv, tv, gv, h1, h2, h3, h4, h5⟩ := h
  refine (hc v h1).mono fun e w' ⟨a1, a2, v', a3, a4⟩ => ⟨a1, a2.mono fun k hk _ => h5 k hk, v', vv, tv, gv, a3, h2.fr a2 (fun k hk s => h3 k hk s), fun k hk s => ?_, h4, fun k hk => ?_⟩
  · rcases s with s | s
    · exact h3 k hk (Or.inl s)
    · rcases a4 k s with e' | e'
      · exact h3 k hk (Or.inr e')
      · have := h2.lt k hk; omega
  · rcases hk with hk | hk
    · exact h5 k (Or.inl hk)
    · rcases a4 k hk with e' | e'
      · exact h5 k (Or.inr e')
      · exact hD k e'
theorem Tw.ref (h : Tw D w g x l f n V T G most) (hD : ∀ k, w.heap.size ≤ k → D k) (hc : ∀ vv tv gv, RP w x vv tv gv V T G most → Calls Try.prog F args w fun e w' => e = r ∧ Fr (RF x vv tv gv) w w' ∧ RH w x vv tv gv V' T' G' most w') :
    Calls Try.prog F args w fun e w' => e = r ∧ Fr D w w' ∧ Tw D w' g x l f n V' T' G' most := by
  obtain ⟨v, vv, tv, gv, h1, h2, h3, h4, h5⟩ := h
  refine (hc vv tv gv h2).mono fun e w' ⟨a1, a2, vv', tv', gv', a3, a4⟩ => ⟨a1, a2.mono fun k hk _ => h4 k hk, v, vv', tv', gv', h1.fr a2 (fun k hk s => h3 k s hk), a3, fun k hk s => ?_, fun k hk => ?_, h5⟩
  · rcases a4 k hk with e' | e'
    · exact h3 k e' s
    · have := h1.lt k s; omega
  · rcases a4 k hk with e' | e'
    · exact h4 k e'
    · exact hD k e'
end

/-- behind an act -/
def Post (base : Nat) (w : World) (g x : Nat) (l : List Slot) (gs : List Nat) (most : Nat) (w' : World) : Prop :=
  Fr (fun k => base ≤ k) w w' ∧ ∃ l' gs' V', Tw (fun k => base ≤ k) w' g x l' (enc gs') (nt (marks l') : Nat) V' (marks l') (given gs') most ∧ Inv l' gs' V' most ∧ l'.length ≤ l.length + 1 ∧ gs'.length ≤ gs.length + 1

section
variable (w : World) {base g x most : Nat} {l : List Slot} {gs : List Nat} {V : List Int}
set_option maxRecDepth 100000 in
set_option maxHeartbeats 8000000 in
theorem does_1 (h : Tw (fun k => base ≤ k) w g x l (enc gs) (nt (marks l) : Nat) V (marks l) (given gs) most) (hb : base ≤ w.heap.size) (hI : Inv l gs V most) (hl : l.length ≤ 500) (hg : gs.length ≤ 500) (hm : most ≤ 1048576) (i y : Int) :
    Calls Try.prog 10 #[.pointer (some ⟨g, 0, none⟩), .pointer (some ⟨x, 0, none⟩), .agg #[.int .i64 1, .int .i64 i, .int .i64 y]] w fun e w' => e = .returned (.bool true) ∧ Post base w g x l gs most w' := by
  have HB := Lib.hid (Bk.new w 29 #[.int .i64 1, .int .i64 i, .int .i64 y])
  have HT := Lib.hid (h.box (.cells #[.int .i64 1, .int .i64 i, .int .i64 y] 29))
  have HF := Lib.hid (show Fr (fun k => base ≤ k) w (w.alloc (.cells #[.int .i64 1, .int .i64 i, .int .i64 y] 29)) from (Fr.refl _ w).alloc _)
  have hbs := hb
  have HI := Lib.hid hI
  obtain ⟨c, l', gs', k1, k2, hI2, hl2, hg2⟩ := give_step (g := g) (x := x) hI (by omega) (by omega) i
  have K1 := Lib.hid k1
  have K2 := Lib.hid k2
  have HI2 := Lib.hid hI2
  clear h hI k1 k2 hI2
  go_enter Try.func10, Try.ntmps10
  go_upto_region 6 with fail
  have KS := Lib.hid (fun W (hW : Fr (fun k => base ≤ k ∧ k ≠ w.heap.size) (w.alloc (.cells #[.int .i64 1, .int .i64 i, .int .i64 y] 29)) W) => (show Bk W w.heap.size 29 #[.int .i64 1, .int .i64 i, .int .i64 y] from HB.out.fr hW (fun s => s.2 rfl)))
  refine wp_region_held (S := fun w' => Bk w' w.heap.size 29 #[.int .i64 1, .int .i64 i, .int .i64 y]) (by kernel_rfl) ?_
  have fz0 : Fr (fun k => base ≤ k ∧ k ≠ w.heap.size) (w.alloc (.cells #[.int .i64 1, .int .i64 i, .int .i64 y] 29)) (World.drew (w.alloc (.cells #[.int .i64 1, .int .i64 i, .int .i64 y] 29))) := (Fr.refl _ _).drew
  have hz0 : w.heap.size + 1 ≤ (World.drew (w.alloc (.cells #[.int .i64 1, .int .i64 i, .int .i64 y] 29))).heap.size := by simp
  have T0 := Lib.hid (HT.out.nil ((Fr.refl Nil _).drew))
  change wpAnyH _ _ _ _ _ _ _ _ (World.drew _)
  refine wpAnyH_take (i := 0) (v := .pointer (some ⟨g, 0, none⟩)) rfl (by kernel_rfl) (by kernel_rfl) (by kernel_rfl) (fun _ _ _ h => h) (Or.inl ⟨by rfl, fun w' hw' => by first | (go_simp; done) | (go_simp; rfl)⟩) (KS.out _ fz0) ?_
  (try simp only [Act.put, List.getElem_toArray, List.getElem_cons_zero, List.getElem_cons_succ, List.setIfInBounds_toArray, List.set_cons_zero, List.set_cons_succ])
  refine wpAnyH_take (i := 1) (v := .pointer (some ⟨w.heap.size, 1, none⟩)) rfl (by kernel_rfl) (by kernel_rfl) (by kernel_rfl) (fun _ _ _ h => h) (Or.inl ⟨by rfl, fun w' hw' => by first | (go_simp; done) | (go_simp; rfl)⟩) (KS.out _ fz0) ?_
  (try simp only [Act.put, List.getElem_toArray, List.getElem_cons_zero, List.getElem_cons_succ, List.setIfInBounds_toArray, List.set_cons_zero, List.set_cons_succ])
  refine wpAnyH_take (i := 2) (v := .int .i64 i) rfl (by kernel_rfl) (by kernel_rfl) (by kernel_rfl) (fun _ _ _ h => h) (Or.inl ⟨by rfl, fun w' hw' => by obtain ⟨z0, z1, z2, _⟩ := Bk.c3 hw'; first | (go_simp; done) | (go_simp; rfl)⟩) (KS.out _ fz0) ?_
  (try simp only [Act.put, List.getElem_toArray, List.getElem_cons_zero, List.getElem_cons_succ, List.setIfInBounds_toArray, List.set_cons_zero, List.set_cons_succ])
  refine wpAnyH_take (i := 4) (v := .pointer (some ⟨x, 0, none⟩)) rfl (by kernel_rfl) (by kernel_rfl) (by kernel_rfl) (fun _ _ _ h => h) (Or.inl ⟨by rfl, fun w' hw' => by first | (go_simp; done) | (go_simp; rfl)⟩) (KS.out _ fz0) ?_
  (try simp only [Act.put, List.getElem_toArray, List.getElem_cons_zero, List.getElem_cons_succ, List.setIfInBounds_toArray, List.set_cons_zero, List.set_cons_succ])
  refine wpAnyH_take (i := 5) (v := .pointer (some ⟨w.heap.size, 1, none⟩)) rfl (by kernel_rfl) (by kernel_rfl) (by kernel_rfl) (fun _ _ _ h => h) (Or.inl ⟨by rfl, fun w' hw' => by first | (go_simp; done) | (go_simp; rfl)⟩) (KS.out _ fz0) ?_
  (try simp only [Act.put, List.getElem_toArray, List.getElem_cons_zero, List.getElem_cons_succ, List.setIfInBounds_toArray, List.set_cons_zero, List.set_cons_succ])
  refine wpAnyH_take (i := 6) (v := .int .i64 i) rfl (by kernel_rfl) (by kernel_rfl) (by kernel_rfl) (fun _ _ _ h => h) (Or.inl ⟨by rfl, fun w' hw' => by obtain ⟨z0, z1, z2, _⟩ := Bk.c3 hw'; first | (go_simp; done) | (go_simp; rfl)⟩) (KS.out _ fz0) ?_
  (try simp only [Act.put, List.getElem_toArray, List.getElem_cons_zero, List.getElem_cons_succ, List.setIfInBounds_toArray, List.set_cons_zero, List.set_cons_succ])
  refine wpAnyH_all (rs := [3]) (by kernel_rfl) (by simp) (fun i hi => ?_)
  obtain rfl : i = 3 := by simpa using hi
  refine wpOp_step rfl (fun K hK => ?_)
  go_simp
  refine (T0.out.pool (fun k hk => ⟨by omega, by omega⟩) (fun v hv => K1.out _ v hv)).mono ?_
  rintro e wz0 ⟨rfl, hfz0, htz0⟩
  have fy0 := fz0.trans hfz0
  have hy0 : w.heap.size + 1 ≤ wz0.heap.size := Nat.le_trans hz0 hfz0.size
  have TY0 := Lib.hid htz0
  refine hK _ _ ⟨KS.out _ fy0, ?_⟩
  clear hK K hi htz0
  (try simp only [Act.put, List.getElem_toArray, List.getElem_cons_zero, List.getElem_cons_succ, List.setIfInBounds_toArray, List.set_cons_zero, List.set_cons_succ])
  refine wpAnyH_all (rs := [7]) (by kernel_rfl) (by simp) (fun i hi => ?_)
  obtain rfl : i = 7 := by simpa using hi
  refine wpOp_step rfl (fun K hK => ?_)
  go_simp
  refine (TY0.out.ref (fun k hk => ⟨by omega, by omega⟩) (fun vv tv gv hv => K2.out _ vv tv gv hv)).mono ?_
  rintro e wz1 ⟨rfl, hfz1, htz1⟩
  have fy1 := fy0.trans hfz1
  have hy1 : w.heap.size + 1 ≤ wz1.heap.size := Nat.le_trans hy0 hfz1.size
  have TY1 := Lib.hid htz1
  refine hK _ _ ⟨KS.out _ fy1, ?_⟩
  clear hK K hi htz1
  (try simp only [Act.put, List.getElem_toArray, List.getElem_cons_zero, List.getElem_cons_succ, List.setIfInBounds_toArray, List.set_cons_zero, List.set_cons_succ])
  refine wpAnyH_take (i := 8) (v := .bool true) rfl (by kernel_rfl) (by kernel_rfl) (by kernel_rfl) (fun _ _ _ h => h) (Or.inl ⟨by rfl, fun w' hw' => by first | (go_simp; done) | (go_simp; rfl)⟩) (KS.out _ fy1) ?_
  (try simp only [Act.put, List.getElem_toArray, List.getElem_cons_zero, List.getElem_cons_succ, List.setIfInBounds_toArray, List.set_cons_zero, List.set_cons_succ])
  refine wpAnyH_take (i := 9) (v := .bool true) rfl (by kernel_rfl) (by kernel_rfl) (by kernel_rfl) (fun _ _ _ h => h) (Or.inl ⟨by rfl, fun w' hw' => by first | (go_simp; done) | (go_simp; rfl)⟩) (KS.out _ fy1) ?_
  (try simp only [Act.put, List.getElem_toArray, List.getElem_cons_zero, List.getElem_cons_succ, List.setIfInBounds_toArray, List.set_cons_zero, List.set_cons_succ])
  refine wpAnyH_done (by kernel_rfl) ?_ _
  go_wp2_with fail
  exact bodyPost_ret (v := .bool true) (by simp [results, Try.results10, go_sem]) rfl ⟨rfl, HF.out.trans (fy1.mono fun k hk _ => hk.1), _, _, _, TY1.out.mono fun k hk => hk.1, HI2.out, hl2, hg2⟩
set_option maxRecDepth 100000 in
set_option maxHeartbeats 8000000 in
theorem does_2 (h : Tw (fun k => base ≤ k) w g x l (enc gs) (nt (marks l) : Nat) V (marks l) (given gs) most) (hb : base ≤ w.heap.size) (hI : Inv l gs V most) (hl : l.length ≤ 500) (hg : gs.length ≤ 500) (hm : most ≤ 1048576) (i y : Int) :
    Calls Try.prog 10 #[.pointer (some ⟨g, 0, none⟩), .pointer (some ⟨x, 0, none⟩), .agg #[.int .i64 2, .int .i64 i, .int .i64 y]] w fun e w' => e = .returned (.bool true) ∧ Post base w g x l gs most w' := by
  have HB := Lib.hid (Bk.new w 29 #[.int .i64 2, .int .i64 i, .int .i64 y])
  have HT := Lib.hid (h.box (.cells #[.int .i64 2, .int .i64 i, .int .i64 y] 29))
  have HF := Lib.hid (show Fr (fun k => base ≤ k) w (w.alloc (.cells #[.int .i64 2, .int .i64 i, .int .i64 y] 29)) from (Fr.refl _ w).alloc _)
  have hbs := hb
  have HI := Lib.hid hI
  obtain ⟨c, l', V', k1, k2, hI2, hl2⟩ := set_step (g := g) (x := x) hI (by omega) i y
  have K1 := Lib.hid k1
  have K2 := Lib.hid k2
  have HI2 := Lib.hid hI2
  clear h hI k1 k2 hI2
  go_enter Try.func10, Try.ntmps10
  go_upto_region 8 with fail
  have KS := Lib.hid (fun W (hW : Fr (fun k => base ≤ k ∧ k ≠ w.heap.size) (w.alloc (.cells #[.int .i64 2, .int .i64 i, .int .i64 y] 29)) W) => (show Bk W w.heap.size 29 #[.int .i64 2, .int .i64 i, .int .i64 y] from HB.out.fr hW (fun s => s.2 rfl)))
  refine wp_region_held (S := fun w' => Bk w' w.heap.size 29 #[.int .i64 2, .int .i64 i, .int .i64 y]) (by kernel_rfl) ?_
  have fz0 : Fr (fun k => base ≤ k ∧ k ≠ w.heap.size) (w.alloc (.cells #[.int .i64 2, .int .i64 i, .int .i64 y] 29)) (World.drew (w.alloc (.cells #[.int .i64 2, .int .i64 i, .int .i64 y] 29))) := (Fr.refl _ _).drew
  have hz0 : w.heap.size + 1 ≤ (World.drew (w.alloc (.cells #[.int .i64 2, .int .i64 i, .int .i64 y] 29))).heap.size := by simp
  have T0 := Lib.hid (HT.out.nil ((Fr.refl Nil _).drew))
  change wpAnyH _ _ _ _ _ _ _ _ (World.drew _)
  refine wpAnyH_take (i := 0) (v := .pointer (some ⟨g, 0, none⟩)) rfl (by kernel_rfl) (by kernel_rfl) (by kernel_rfl) (fun _ _ _ h => h) (Or.inl ⟨by rfl, fun w' hw' => by first | (go_simp; done) | (go_simp; rfl)⟩) (KS.out _ fz0) ?_
  (try simp only [Act.put, List.getElem_toArray, List.getElem_cons_zero, List.getElem_cons_succ, List.setIfInBounds_toArray, List.set_cons_zero, List.set_cons_succ])
  refine wpAnyH_take (i := 1) (v := .pointer (some ⟨w.heap.size, 1, none⟩)) rfl (by kernel_rfl) (by kernel_rfl) (by kernel_rfl) (fun _ _ _ h => h) (Or.inl ⟨by rfl, fun w' hw' => by first | (go_simp; done) | (go_simp; rfl)⟩) (KS.out _ fz0) ?_
  (try simp only [Act.put, List.getElem_toArray, List.getElem_cons_zero, List.getElem_cons_succ, List.setIfInBounds_toArray, List.set_cons_zero, List.set_cons_succ])
  refine wpAnyH_take (i := 2) (v := .int .i64 i) rfl (by kernel_rfl) (by kernel_rfl) (by kernel_rfl) (fun _ _ _ h => h) (Or.inl ⟨by rfl, fun w' hw' => by obtain ⟨z0, z1, z2, _⟩ := Bk.c3 hw'; first | (go_simp; done) | (go_simp; rfl)⟩) (KS.out _ fz0) ?_
  (try simp only [Act.put, List.getElem_toArray, List.getElem_cons_zero, List.getElem_cons_succ, List.setIfInBounds_toArray, List.set_cons_zero, List.set_cons_succ])
  refine wpAnyH_take (i := 3) (v := .pointer (some ⟨w.heap.size, 2, none⟩)) rfl (by kernel_rfl) (by kernel_rfl) (by kernel_rfl) (fun _ _ _ h => h) (Or.inl ⟨by rfl, fun w' hw' => by first | (go_simp; done) | (go_simp; rfl)⟩) (KS.out _ fz0) ?_
  (try simp only [Act.put, List.getElem_toArray, List.getElem_cons_zero, List.getElem_cons_succ, List.setIfInBounds_toArray, List.set_cons_zero, List.set_cons_succ])
  refine wpAnyH_take (i := 4) (v := .int .i64 y) rfl (by kernel_rfl) (by kernel_rfl) (by kernel_rfl) (fun _ _ _ h => h) (Or.inl ⟨by rfl, fun w' hw' => by obtain ⟨z0, z1, z2, _⟩ := Bk.c3 hw'; first | (go_simp; done) | (go_simp; rfl)⟩) (KS.out _ fz0) ?_
  (try simp only [Act.put, List.getElem_toArray, List.getElem_cons_zero, List.getElem_cons_succ, List.setIfInBounds_toArray, List.set_cons_zero, List.set_cons_succ])
  refine wpAnyH_take (i := 6) (v := .pointer (some ⟨x, 0, none⟩)) rfl (by kernel_rfl) (by kernel_rfl) (by kernel_rfl) (fun _ _ _ h => h) (Or.inl ⟨by rfl, fun w' hw' => by first | (go_simp; done) | (go_simp; rfl)⟩) (KS.out _ fz0) ?_
  (try simp only [Act.put, List.getElem_toArray, List.getElem_cons_zero, List.getElem_cons_succ, List.setIfInBounds_toArray, List.set_cons_zero, List.set_cons_succ])
  refine wpAnyH_take (i := 7) (v := .pointer (some ⟨w.heap.size, 1, none⟩)) rfl (by kernel_rfl) (by kernel_rfl) (by kernel_rfl) (fun _ _ _ h => h) (Or.inl ⟨by rfl, fun w' hw' => by first | (go_simp; done) | (go_simp; rfl)⟩) (KS.out _ fz0) ?_
  (try simp only [Act.put, List.getElem_toArray, List.getElem_cons_zero, List.getElem_cons_succ, List.setIfInBounds_toArray, List.set_cons_zero, List.set_cons_succ])
  refine wpAnyH_take (i := 8) (v := .int .i64 i) rfl (by kernel_rfl) (by kernel_rfl) (by kernel_rfl) (fun _ _ _ h => h) (Or.inl ⟨by rfl, fun w' hw' => by obtain ⟨z0, z1, z2, _⟩ := Bk.c3 hw'; first | (go_simp; done) | (go_simp; rfl)⟩) (KS.out _ fz0) ?_
  (try simp only [Act.put, List.getElem_toArray, List.getElem_cons_zero, List.getElem_cons_succ, List.setIfInBounds_toArray, List.set_cons_zero, List.set_cons_succ])
  refine wpAnyH_take (i := 9) (v := .pointer (some ⟨w.heap.size, 2, none⟩)) rfl (by kernel_rfl) (by kernel_rfl) (by kernel_rfl) (fun _ _ _ h => h) (Or.inl ⟨by rfl, fun w' hw' => by first | (go_simp; done) | (go_simp; rfl)⟩) (KS.out _ fz0) ?_
  (try simp only [Act.put, List.getElem_toArray, List.getElem_cons_zero, List.getElem_cons_succ, List.setIfInBounds_toArray, List.set_cons_zero, List.set_cons_succ])
  refine wpAnyH_take (i := 10) (v := .int .i64 y) rfl (by kernel_rfl) (by kernel_rfl) (by kernel_rfl) (fun _ _ _ h => h) (Or.inl ⟨by rfl, fun w' hw' => by obtain ⟨z0, z1, z2, _⟩ := Bk.c3 hw'; first | (go_simp; done) | (go_simp; rfl)⟩) (KS.out _ fz0) ?_
  (try simp only [Act.put, List.getElem_toArray, List.getElem_cons_zero, List.getElem_cons_succ, List.setIfInBounds_toArray, List.set_cons_zero, List.set_cons_succ])
  refine wpAnyH_all (rs := [5]) (by kernel_rfl) (by simp) (fun i hi => ?_)
  obtain rfl : i = 5 := by simpa using hi
  refine wpOp_step rfl (fun K hK => ?_)
  go_simp
  refine (T0.out.pool (fun k hk => ⟨by omega, by omega⟩) (fun v hv => K1.out _ v hv)).mono ?_
  rintro e wz0 ⟨rfl, hfz0, htz0⟩
  have fy0 := fz0.trans hfz0
  have hy0 : w.heap.size + 1 ≤ wz0.heap.size := Nat.le_trans hz0 hfz0.size
  have TY0 := Lib.hid htz0
  refine hK _ _ ⟨KS.out _ fy0, ?_⟩
  clear hK K hi htz0
  (try simp only [Act.put, List.getElem_toArray, List.getElem_cons_zero, List.getElem_cons_succ, List.setIfInBounds_toArray, List.set_cons_zero, List.set_cons_succ])
  refine wpAnyH_all (rs := [11]) (by kernel_rfl) (by simp) (fun i hi => ?_)
  obtain rfl : i = 11 := by simpa using hi
  refine wpOp_step rfl (fun K hK => ?_)
  go_simp
  refine (TY0.out.ref (fun k hk => ⟨by omega, by omega⟩) (fun vv tv gv hv => K2.out _ vv tv gv hv)).mono ?_
  rintro e wz1 ⟨rfl, hfz1, htz1⟩
  have fy1 := fy0.trans hfz1
  have hy1 : w.heap.size + 1 ≤ wz1.heap.size := Nat.le_trans hy0 hfz1.size
  have TY1 := Lib.hid htz1
  refine hK _ _ ⟨KS.out _ fy1, ?_⟩
  clear hK K hi htz1
  (try simp only [Act.put, List.getElem_toArray, List.getElem_cons_zero, List.getElem_cons_succ, List.setIfInBounds_toArray, List.set_cons_zero, List.set_cons_succ])
  refine wpAnyH_take (i := 12) (v := .bool true) rfl (by kernel_rfl) (by kernel_rfl) (by kernel_rfl) (fun _ _ _ h => h) (Or.inl ⟨by rfl, fun w' hw' => by first | (go_simp; done) | (go_simp; rfl)⟩) (KS.out _ fy1) ?_
  (try simp only [Act.put, List.getElem_toArray, List.getElem_cons_zero, List.getElem_cons_succ, List.setIfInBounds_toArray, List.set_cons_zero, List.set_cons_succ])
  refine wpAnyH_take (i := 13) (v := .bool true) rfl (by kernel_rfl) (by kernel_rfl) (by kernel_rfl) (fun _ _ _ h => h) (Or.inl ⟨by rfl, fun w' hw' => by first | (go_simp; done) | (go_simp; rfl)⟩) (KS.out _ fy1) ?_
  (try simp only [Act.put, List.getElem_toArray, List.getElem_cons_zero, List.getElem_cons_succ, List.setIfInBounds_toArray, List.set_cons_zero, List.set_cons_succ])
  refine wpAnyH_done (by kernel_rfl) ?_ _
  go_wp2_with fail
  exact bodyPost_ret (v := .bool true) (by simp [results, Try.results10, go_sem]) rfl ⟨rfl, HF.out.trans (fy1.mono fun k hk _ => hk.1), _, _, _, TY1.out.mono fun k hk => hk.1, HI2.out, hl2, by omega⟩
set_option maxRecDepth 100000 in
set_option maxHeartbeats 8000000 in
theorem does_0 (h : Tw (fun k => base ≤ k) w g x l (enc gs) (nt (marks l) : Nat) V (marks l) (given gs) most) (hb : base ≤ w.heap.size) (hI : Inv l gs V most) (hl : l.length ≤ 500) (hg : gs.length ≤ 500) (hm : most ≤ 1048576) (k i y : Int) (e1 : k ≠ 1) (e2 : k ≠ 2) (e3 : k ≠ 3) (e4 : k ≠ 4) :
    Calls Try.prog 10 #[.pointer (some ⟨g, 0, none⟩), .pointer (some ⟨x, 0, none⟩), .agg #[.int .i64 k, .int .i64 i, .int .i64 y]] w fun e w' => e = .returned (.bool true) ∧ Post base w g x l gs most w' := by
  have HB := Lib.hid (Bk.new w 29 #[.int .i64 k, .int .i64 i, .int .i64 y])
  have HT := Lib.hid (h.box (.cells #[.int .i64 k, .int .i64 i, .int .i64 y] 29))
  have HF := Lib.hid (show Fr (fun k => base ≤ k) w (w.alloc (.cells #[.int .i64 k, .int .i64 i, .int .i64 y] 29)) from (Fr.refl _ w).alloc _)
  have hbs := hb
  have HI := Lib.hid hI
  obtain ⟨r, c, l', gs', V', k1, k2, hI2, hl2, hg2⟩ := take_step (g := g) (x := x) hI (by omega) y
  have K1 := Lib.hid k1
  have K2 := Lib.hid k2
  have HI2 := Lib.hid hI2
  obtain ⟨b0, b1, b2, _⟩ := HB.out.c3
  have hz : w.heap.size + 1 ≤ (w.alloc (.cells #[.int .i64 k, .int .i64 i, .int .i64 y] 29)).heap.size := by simp
  clear h hI k1 k2 hI2
  go_enter Try.func10, Try.ntmps10
  go_wp2_with fail
  refine (HT.out.pool (fun k hk => ⟨by omega, by omega⟩) (fun v hv => K1.out _ v hv)).mono ?_
  rintro e w1 ⟨rfl, hf1, ht1⟩
  have HB1 := Lib.hid (HB.out.fr hf1 (fun s => s.2 rfl))
  obtain ⟨b0, b1, b2, _⟩ := HB1.out.c3
  have HT1 := Lib.hid ht1
  have HF1 := Lib.hid (HF.out.trans (hf1.mono fun k hk _ => hk.1))
  have hz1 := Nat.le_trans hz hf1.size
  clear ht1 hf1
  go_wp2_with fail
  refine (HT1.out.ref (fun k hk => ⟨by omega, by omega⟩) (fun vv tv gv hv => K2.out _ vv tv gv hv)).mono ?_
  rintro e w2 ⟨rfl, hf2, ht2⟩
  have HT2 := Lib.hid ht2
  have HF2 := Lib.hid (HF1.out.trans (hf2.mono fun k hk _ => hk.1))
  clear ht2 hf2
  go_wp2_with fail
  exact bodyPost_ret (v := .bool true) (by simp [results, Try.results10, go_sem]) rfl ⟨rfl, HF2.out, _, _, _, HT2.out.mono fun k hk => hk.1, HI2.out, hl2, hg2⟩
set_option maxRecDepth 100000 in
set_option maxHeartbeats 8000000 in
theorem does_3 (h : Tw (fun k => base ≤ k) w g x l (enc gs) (nt (marks l) : Nat) V (marks l) (given gs) most) (hb : base ≤ w.heap.size) (hI : Inv l gs V most) (hl : l.length ≤ 500) (hg : gs.length ≤ 500) (hm : most ≤ 1048576) (i y : Int) :
    Calls Try.prog 10 #[.pointer (some ⟨g, 0, none⟩), .pointer (some ⟨x, 0, none⟩), .agg #[.int .i64 3, .int .i64 i, .int .i64 y]] w fun e w' => e = .returned (.bool true) ∧ Post base w g x l gs most w' := by
  have HB := Lib.hid (Bk.new w 29 #[.int .i64 3, .int .i64 i, .int .i64 y])
  have HT := Lib.hid (h.box (.cells #[.int .i64 3, .int .i64 i, .int .i64 y] 29))
  have HF := Lib.hid (show Fr (fun k => base ≤ k) w (w.alloc (.cells #[.int .i64 3, .int .i64 i, .int .i64 y] 29)) from (Fr.refl _ w).alloc _)
  have hbs := hb
  have HI := Lib.hid hI
  obtain ⟨b0, b1, b2, _⟩ := HB.out.c3
  obtain ⟨v, vv, tv, gv, hP, hR, hA⟩ := HT.out
  have hnl := nt_le (marks l)
  rw [marks_len] at hnl
  have hle := hI.le
  have KN := Lib.hid (fun W (hW : Fr Nil (w.alloc (.cells #[.int .i64 3, .int .i64 i, .int .i64 y] 29)) W) => N_any W (hR.nil hW) (by rw [marks_len]; omega))
  have kr := fun W (hW : Fr Nil (w.alloc (.cells #[.int .i64 3, .int .i64 i, .int .i64 y] 29)) W) => Reserve_any W (i := i) (hP.nil hW) (by omega) hm
  have q3 := fun p : FrW Nil (w.alloc (.cells #[.int .i64 3, .int .i64 i, .int .i64 y] 29)) => quiet_cell hR.1 (S := Nil) id p 3
  simp only [show ((#[vv, tv, gv, .int .i64 most] : Array Value)[3]? = some (.int .i64 most)) from rfl] at q3
  have d1 := fun p : FrW Nil (w.alloc (.cells #[.int .i64 3, .int .i64 i, .int .i64 y] 29)) => quiet_cell HB.out (S := Nil) id p 1
  simp only [show ((#[.int .i64 3, .int .i64 i, .int .i64 y] : Array Value)[1]? = some (.int .i64 i)) from rfl] at d1
  have HL := Lib.hid hl
  have n0 : (0 : Int) ≤ (nt (marks l) : Nat) := by omega
  have n1 : ((nt (marks l) : Nat) : Int) ≤ 500 := by omega
  have n2 : ((nt (marks l) : Nat) : Int) ≤ most := by omega
  have n3 : (most : Int) ≤ 1048576 := by omega
  have HFIN := Lib.hid (fun W (hW : Fr Nil (w.alloc (.cells #[.int .i64 3, .int .i64 i, .int .i64 y] 29)) W) => show Post base w g x l gs most W from ⟨HF.out.trans (hW.mono fun _ s _ => s.elim), l, gs, V, (HT.out.nil hW).mono fun k hk => hk.1, HI.out, by omega, by omega⟩)
  clear h hI hP hR hA hnl hle hl hg
  generalize ((nt (marks l) : Nat) : Int) = n at *
  generalize (most : Int) = M at *
  obtain ⟨r, hr⟩ : ∃ r, M - n = r := ⟨_, rfl⟩
  rw [hr] at kr
  have hr0 : 0 ≤ r := by omega
  have hr1 : r ≤ 1048576 := by omega
  have KR := Lib.hid kr
  clear kr
  have way : (i < 0 ∧ i ≤ r ∧ rsv i r = 1) ∨ (0 ≤ i ∧ r < i ∧ rsv i r = 4) ∨ (0 ≤ i ∧ i ≤ r ∧ rsv i r = 0) := by
    unfold rsv
    split
    · left; omega
    · right; split <;> omega
  rcases way with ⟨h1, h2, h3⟩ | ⟨h1, h2, h3⟩ | ⟨h1, h2, h3⟩
  all_goals
    rw [h3] at KR
    clear h3
    go_enter Try.func10, Try.ntmps10
    go_wp2_with fail
    refine wp_region_quiet_fr Nil (by kernel_rfl) (by kernel_rfl) ?_
    repeat (go_big_quiet_step (first
      | (go_at_call 12; with_reducible exact quiet_call (KN.out _ (FrW.fr _)))))
    refine wpQuiet_nil ?_
    intro w1 hw'
    obtain ⟨⟨wq, hfq⟩, hw''⟩ := hw'
    subst hw''
    have HFq := Lib.hid hfq
    obtain ⟨e0, e1, e2, _⟩ := (HB.out.fr hfq id).c3
    clear hfq q3 d1
    go_wp2_with fail
    refine (KR.out _ HFq.out).mono ?_
    rintro e w2 ⟨rfl, hf2⟩
    go_wp2_with fail
    exact bodyPost_ret (v := .bool true) (by simp [results, Try.results10, go_sem]) rfl ⟨rfl, HFIN.out _ (HFq.out.trans hf2)⟩
set_option maxRecDepth 100000 in
set_option maxHeartbeats 8000000 in
theorem does_4 (h : Tw (fun k => base ≤ k) w g x l (enc gs) (nt (marks l) : Nat) V (marks l) (given gs) most) (hb : base ≤ w.heap.size) (hI : Inv l gs V most) (hl : l.length ≤ 500) (hg : gs.length ≤ 500) (hm : most ≤ 1048576) (i y : Int) :
    Calls Try.prog 10 #[.pointer (some ⟨g, 0, none⟩), .pointer (some ⟨x, 0, none⟩), .agg #[.int .i64 4, .int .i64 i, .int .i64 y]] w fun e w' => e = .returned (.bool true) ∧ Post base w g x l gs most w' := by
  have HB := Lib.hid (Bk.new w 29 #[.int .i64 4, .int .i64 i, .int .i64 y])
  have HT := Lib.hid (h.box (.cells #[.int .i64 4, .int .i64 i, .int .i64 y] 29))
  have HF := Lib.hid (show Fr (fun k => base ≤ k) w (w.alloc (.cells #[.int .i64 4, .int .i64 i, .int .i64 y] 29)) from (Fr.refl _ w).alloc _)
  have hbs := hb
  have HI := Lib.hid hI
  obtain ⟨b0, b1, b2, _⟩ := HB.out.c3
  have hz : w.heap.size + 1 ≤ (w.alloc (.cells #[.int .i64 4, .int .i64 i, .int .i64 y] 29)).heap.size := by simp
  have K1 := Lib.hid (fun W v (hv : Pl W g v l (enc gs) (nt (marks l) : Nat) most) => Clear_any W hv)
  clear h hI
  go_enter Try.func10, Try.ntmps10
  go_wp2_with fail
  refine (HT.out.pool (fun k hk => ⟨by omega, by omega⟩) (fun v hv => K1.out _ v hv)).mono ?_
  rintro e w1 ⟨rfl, hf1, v, vv, tv, gv, hP, hR, hA⟩
  have HF1 := Lib.hid (HF.out.trans (hf1.mono fun k hk _ => hk.1))
  have HP := Lib.hid hP
  have HR := Lib.hid hR
  have HA := Lib.hid hA
  obtain ⟨c0, c1, c2, c3, f0, f1, f2, f3⟩ := hR.1.c4
  clear hf1 hP hR hA
  go_wp2_with fail
  have hfx : Fr (fun k => k = x) w1 (((w1.setCell ⟨x, 0, none⟩ (.slice none 0 0)).setCell ⟨x, 1, none⟩ (.slice none 0 0)).setCell ⟨x, 2, none⟩ (.slice none 0 0)) :=
    Fr.setCell (p := ⟨x, 2, none⟩) (Fr.setCell (p := ⟨x, 1, none⟩) (Fr.setCell (p := ⟨x, 0, none⟩) (Fr.refl (fun k => k = x) w1) (fun _ => rfl) _) (fun _ => rfl) _) (fun _ => rfl) _
  have hxf : ¬ Foot g v x := HA.out.1 x (Or.inl rfl)
  refine bodyPost_ret (v := .bool true) (by simp [results, Try.results10, go_sem]) rfl ⟨rfl, HF1.out.trans (hfx.mono fun k hk _ => by rw [hk]; exact (HA.out.2.1 x (Or.inl rfl)).1), [], [], [], ⟨v, .slice none 0 0, .slice none 0 0, .slice none 0 0, HP.out.fr hfx (fun k hk s => hxf (by rw [← s]; exact hk)), ⟨((HR.out.1.put 0 _).put 1 _).put 2 _, Own.nil _ _, Own.nil _ _, Or.inl ⟨rfl, rfl⟩, fun k hk => by cases hk⟩, fun k hk => ?_, fun k hk => ?_, fun k hk => (HA.out.2.2 k hk).1⟩, Inv.start most, by simp, by simp⟩
  · rcases hk with hk | hk | hk | hk
    · rw [hk]; exact hxf
    · cases hk
    · cases hk
    · cases hk
  · rcases hk with hk | hk | hk | hk
    · rw [hk]; exact (HA.out.2.1 x (Or.inl rfl)).1
    · cases hk
    · cases hk
    · cases hk
theorem does_any (h : Tw (fun k => base ≤ k) w g x l (enc gs) (nt (marks l) : Nat) V (marks l) (given gs) most) (hb : base ≤ w.heap.size) (hI : Inv l gs V most) (hl : l.length ≤ 500) (hg : gs.length ≤ 500) (hm : most ≤ 1048576) (k i y : Int) :
    Calls Try.prog 10 #[.pointer (some ⟨g, 0, none⟩), .pointer (some ⟨x, 0, none⟩), .agg #[.int .i64 k, .int .i64 i, .int .i64 y]] w fun e w' => e = .returned (.bool true) ∧ Post base w g x l gs most w' := by
  by_cases e1 : k = 1
  · subst e1; exact does_1 w h hb hI hl hg hm i y
  by_cases e2 : k = 2
  · subst e2; exact does_2 w h hb hI hl hg hm i y
  by_cases e3 : k = 3
  · subst e3; exact does_3 w h hb hI hl hg hm i y
  by_cases e4 : k = 4
  · subst e4; exact does_4 w h hb hI hl hg hm i y
  exact does_0 w h hb hI hl hg hm k i y e1 e2 e3 e4
end
end Go.Proofs.Ytemofdbepalnkaa.PoolN
