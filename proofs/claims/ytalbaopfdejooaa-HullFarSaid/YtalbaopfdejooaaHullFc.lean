import Derived.Test.YtalbaopfdejooaaHullW
import Derived.Test.YtalbaopfdejooaaTail
import Derived.Test.YtalbaopfdejooaaHullU
/- Chapter 41: how far a point lies in a direction, in both packages. -/
namespace Go.Proofs.Ytalbaopfdejooaa.HullFa
open Go.RowKit Base Slices RowsA WideB KernA KernE AreaA HullI HullJ HullO Quiet Tail
open AreaB (wcs)
set_option linter.unusedVariables false
set_option linter.unusedSimpArgs false

/-- how far a point lies in a direction -/
def al (p : Pn) (dx dy : Int) : Int := p.2.1 * dx + p.2.2 * dy
theorem al_bd {p : Pn} {dx dy : Int} (hp : lie p = true) (hx : inC dx = true) (hy : inC dy = true) : (-4835703278458516698824704 ≤ p.2.1 * dx ∧ p.2.1 * dx ≤ 4835703278458516698824704) ∧ -4835703278458516698824704 ≤ p.2.2 * dy ∧ p.2.2 * dy ≤ 4835703278458516698824704 := by
  obtain ⟨⟨a1, a2⟩, b1, b2⟩ := AreaB.lie_bd hp
  have hx' := inC_iff.1 hx
  have hy' := inC_iff.1 hy
  exact ⟨KernA.mul_bd (by omega) (by omega), KernA.mul_bd (by omega) (by omega)⟩
set_option maxRecDepth 100000 in
set_option maxHeartbeats 4000000 in
theorem halong_any (p : Pn) (dx dy : Int) (hp : lie p = true) (hx : inC dx = true) (hy : inC dy = true) (w : World) :
    Calls Try.prog 42 #[.agg #[.int .i64 p.1, .int .i64 p.2.1, .int .i64 p.2.2], .int .i64 dx, .int .i64 dy] w fun e w' => e = .returned (.agg (wcs (al p dx dy))) ∧ Fr Nil w w' := by
  obtain ⟨m1, m2⟩ := al_bd hp hx hy
  obtain ⟨⟨a1, a2⟩, b1, b2⟩ := AreaB.lie_bd hp
  have hx' := inC_iff.1 hx
  have hy' := inC_iff.1 hy
  have kP := fun W => WideQ.Mul_any p.2.1 dx (by omega) (by omega) W
  have kQ := fun W => WideQ.Mul_any p.2.2 dy (by omega) (by omega) W
  have kS := fun W => AreaC.add_wide (m := p.2.1 * dx) (n := p.2.2 * dy) (by omega) (by omega) W
  change ∀ W, Calls _ _ _ W fun e w' => e = .returned (.tuple #[.agg (wcs (al p dx dy)), .bool true]) ∧ Fr Nil W w' at kS
  unfold wcs at kS ⊢
  generalize al p dx dy / 18446744073709551616 = nh at *
  generalize al p dx dy % 18446744073709551616 = nl at *
  generalize p.2.1 * dx / 18446744073709551616 = ph at *
  generalize p.2.1 * dx % 18446744073709551616 = pl at *
  generalize p.2.2 * dy / 18446744073709551616 = qh at *
  generalize p.2.2 * dy % 18446744073709551616 = ql at *
  have KP := Lib.hid kP
  have KQ := Lib.hid kQ
  have KS := Lib.hid kS
  have HB := Lib.hid ((Bk.new w 34 #[.int .i64 p.1, .int .i64 p.2.1, .int .i64 p.2.2]).alloc (.cells #[.int .i64 0, .int .u64 0] 56))
  have HR := Lib.hid (Bk.new (w.alloc (.cells #[.int .i64 p.1, .int .i64 p.2.1, .int .i64 p.2.2] 34)) 56 #[.int .i64 0, .int .u64 0])
  have HF := Lib.hid ((((Fr.refl Nil w).alloc (.cells #[.int .i64 p.1, .int .i64 p.2.1, .int .i64 p.2.2] 34))).alloc (.cells #[.int .i64 0, .int .u64 0] 56))
  obtain ⟨W1, hW1⟩ : ∃ W1, ((w.alloc (.cells #[.int .i64 p.1, .int .i64 p.2.1, .int .i64 p.2.2] 34)).alloc (.cells #[.int .i64 0, .int .u64 0] 56)) = W1 := ⟨_, rfl⟩
  rw [hW1] at HB HR HF
  rw [show (w.alloc (.cells #[.int .i64 p.1, .int .i64 p.2.1, .int .i64 p.2.2] 34)).heap.size = w.heap.size + 1 by simp] at HR
  have HW1 := Lib.hid hW1
  clear kP kQ kS m1 m2 a1 a2 b1 b2 hx hy hx' hy' hp hW1
  go_enter Try.func42, Try.ntmps42
  go_wp2_with fail
  rw [HW1.out]
  obtain ⟨c0, c1, c2, _, _, _⟩ := HB.out.c3
  have hl1 : w.heap.size + 1 < W1.heap.size := HR.out.lt
  have hn1 : ¬ (W1.heap.size = w.heap.size + 1) := by omega
  have hn2 : ¬ (w.heap.size + 1 = W1.heap.size) := by omega
  have hn3 : ¬ (w.heap.size = W1.heap.size) := by omega
  have hn4 : ¬ (W1.heap.size = w.heap.size) := by omega
  go_region_held3 (fun w' => w'.cell? ⟨w.heap.size, 0, none⟩ = some (.int .i64 p.1) ∧ w'.cell? ⟨w.heap.size, 1, none⟩ = some (.int .i64 p.2.1) ∧ w'.cell? ⟨w.heap.size, 2, none⟩ = some (.int .i64 p.2.2)) (first | (go_keep; done))
    (first
      | (go_at_call 67; (with_reducible refine (KP.out _).mono ?_); rintro e wa ⟨rfl, hfa⟩; have F1 : Fr Nil W1 wa := Fr.trans (by (repeat' (with_reducible first | refine Fr.setCell ?_ (fun hlt => absurd hlt (by dsimp only; omega)) _ | refine Fr.alloc ?_ _ | refine Fr.drewN ?_ _ | refine Fr.drew ?_ | exact Fr.refl _ _))) hfa; (try (have HA := Lib.hid (show Bk wa W1.heap.size 56 #[.int .i64 0, .int .u64 0] from (Bk.drew (Bk.new W1 56 #[.int .i64 0, .int .u64 0])).fr hfa id))); have la := (HR.out.fr F1 id).lt; have na1 : ¬ wa.heap.size = w.heap.size := (by omega); have na2 : ¬ w.heap.size = wa.heap.size := (by omega); have na3 : ¬ wa.heap.size = w.heap.size + 1 := (by omega); have na4 : ¬ w.heap.size + 1 = wa.heap.size := (by omega); obtain ⟨c0, c1, c2, _, _, _⟩ := (HB.out.fr F1 id).c3)
      | (go_at_call 67; (with_reducible refine (KQ.out _).mono ?_); rintro e wb ⟨rfl, hfb⟩; have F2 : Fr Nil W1 wb := Fr.trans (by (repeat' (with_reducible first | exact F1 | refine Fr.setCell ?_ (fun hlt => absurd hlt (by dsimp only; omega)) _ | refine Fr.alloc ?_ _ | refine Fr.drewN ?_ _ | refine Fr.drew ?_))) hfb; (first | (replace HA := Lib.hid (HA.out.fr hfb id)) | (have HA := Lib.hid ((Bk.new _ 56 #[.int .i64 0, .int .u64 0]).fr hfb id)) | skip); have lb := (HR.out.fr F2 id).lt; have nb1 : ¬ wb.heap.size = w.heap.size := (by omega); have nb2 : ¬ w.heap.size = wb.heap.size := (by omega); have nb3 : ¬ wb.heap.size = w.heap.size + 1 := (by omega); have nb4 : ¬ w.heap.size + 1 = wb.heap.size := (by omega); obtain ⟨c0, c1, c2, _, _, _⟩ := (HB.out.fr F2 id).c3)
      | (go_at_call 66; (with_reducible refine (KS.out _).mono ?_); rintro e wd ⟨rfl, hfd⟩; have F3 : Fr Nil W1 wd := Fr.trans (by (repeat' (with_reducible first | exact F2 | refine Fr.setCell ?_ (fun hlt => absurd hlt (by dsimp only; omega)) _ | refine Fr.alloc ?_ _ | refine Fr.drewN ?_ _ | refine Fr.drew ?_))) hfd; (first | (obtain ⟨j4, j5, g4, g5⟩ := (HA.out.fr hfd id).c2) | (obtain ⟨j4, j5, g4, g5⟩ := ((Bk.new _ 56 #[.int .i64 0, .int .u64 0]).fr hfd id).c2) | skip); have ld := (HR.out.fr F3 id).lt; have nd1 : ¬ wd.heap.size = w.heap.size := (by omega); have nd2 : ¬ w.heap.size = wd.heap.size := (by omega); have nd3 : ¬ wd.heap.size = w.heap.size + 1 := (by omega); have nd4 : ¬ w.heap.size + 1 = wd.heap.size := (by omega); obtain ⟨c0, c1, c2, _, _, _⟩ := (HB.out.fr F3 id).c3))
  all_goals
    have hl : w.heap.size + 1 < wd.heap.size := (HR.out.fr F3 id).lt
    obtain ⟨k4, k5, f4, f5⟩ := (HR.out.fr F3 id).c2
    go_wp2_with fail
    refine bodyPost_ret (v := .agg #[.int .i64 nh, .int .u64 nl]) (by simp [results, Try.results42, go_sem, k4, k5, hl, Nat.ne_of_lt hl]) rfl ⟨rfl, ?_⟩
    have hh : Fr Nil w wd := HF.out.trans F3
    (repeat' (with_reducible first | exact hh | refine Fr.setCell ?_ (fun hlt => absurd hlt (by dsimp only; omega)) _ | refine Fr.alloc ?_ _ | refine Fr.drewN ?_ _ | refine Fr.drew ?_))

set_option maxRecDepth 100000 in
set_option maxHeartbeats 4000000 in
theorem ralong_any (p : Pn) (dx dy : Int) (hp : lie p = true) (hx : inC dx = true) (hy : inC dy = true) (w : World) :
    Calls Try.prog 20 #[.agg #[.int .i64 p.1, .int .i64 p.2.1, .int .i64 p.2.2], .int .i64 dx, .int .i64 dy] w fun e w' => e = .returned (.agg (dcells (al p dx dy))) ∧ Fr Nil w w' := by
  obtain ⟨⟨a1, a2⟩, b1, b2⟩ := AreaB.lie_bd hp
  have hx' := inC_iff.1 hx
  have hy' := inC_iff.1 hy
  have kA := fun W => WideC.long_any p.2.1 W (by omega) (by omega)
  have kB := fun W => WideC.long_any dx W (by omega) (by omega)
  have kC := fun W => WideC.long_any p.2.2 W (by omega) (by omega)
  have kD := fun W => WideC.long_any dy W (by omega) (by omega)
  have kP := fun W => WideR.mul_any p.2.1 dx W
  have kQ := fun W => WideR.mul_any p.2.2 dy W
  have kS := fun W => WideD.add_any (p.2.1 * dx) (p.2.2 * dy) W
  change ∀ W, Calls _ _ _ W fun e w' => e = .returned (.agg (dcells (al p dx dy))) ∧ Fr Nil W w' at kS
  generalize al p dx dy = n at *
  generalize dcells (p.2.1 * dx) = dp at *
  generalize dcells (p.2.2 * dy) = dq at *
  generalize dcells p.2.1 = da at *
  generalize dcells dx = db at *
  generalize dcells p.2.2 = dc at *
  generalize dcells dy = dd at *
  have KA := Lib.hid kA
  have KB := Lib.hid kB
  have KC := Lib.hid kC
  have KD := Lib.hid kD
  have KP := Lib.hid kP
  have KQ := Lib.hid kQ
  have KS := Lib.hid kS
  have HB := Lib.hid ((Bk.new w 34 #[.int .i64 p.1, .int .i64 p.2.1, .int .i64 p.2.2]).alloc (.cells #[.int .u64 0, .int .u64 0, .int .u64 0, .int .u64 0, .int .u64 0, .int .u64 0, .int .u64 0, .int .u64 0, .int .u64 0] 41))
  have HR := Lib.hid (Bk.new (w.alloc (.cells #[.int .i64 p.1, .int .i64 p.2.1, .int .i64 p.2.2] 34)) 41 #[.int .u64 0, .int .u64 0, .int .u64 0, .int .u64 0, .int .u64 0, .int .u64 0, .int .u64 0, .int .u64 0, .int .u64 0])
  have HF := Lib.hid ((((Fr.refl Nil w).alloc (.cells #[.int .i64 p.1, .int .i64 p.2.1, .int .i64 p.2.2] 34))).alloc (.cells #[.int .u64 0, .int .u64 0, .int .u64 0, .int .u64 0, .int .u64 0, .int .u64 0, .int .u64 0, .int .u64 0, .int .u64 0] 41))
  obtain ⟨W1, hW1⟩ : ∃ W1, ((w.alloc (.cells #[.int .i64 p.1, .int .i64 p.2.1, .int .i64 p.2.2] 34)).alloc (.cells #[.int .u64 0, .int .u64 0, .int .u64 0, .int .u64 0, .int .u64 0, .int .u64 0, .int .u64 0, .int .u64 0, .int .u64 0] 41)) = W1 := ⟨_, rfl⟩
  rw [hW1] at HB HR HF
  rw [show (w.alloc (.cells #[.int .i64 p.1, .int .i64 p.2.1, .int .i64 p.2.2] 34)).heap.size = w.heap.size + 1 by simp] at HR
  have HW1 := Lib.hid hW1
  clear kA kB kC kD kP kQ kS a1 a2 b1 b2 hx hy hx' hy' hp hW1
  go_enter Try.func20, Try.ntmps20
  go_wp2_with fail
  rw [HW1.out]
  obtain ⟨q0, q1, q2⟩ := KernE.quiet_c3 (S := Nil) HB.out id
  refine wp_region_quiet_tail_fr Nil 13 (by kernel_rfl) (by kernel_rfl) ?_
  simp only [List.take_succ_cons, List.take_zero, List.drop_succ_cons, List.drop_zero]
  repeat (go_big_quiet_step (first
    | (go_at_call 25; with_reducible exact quiet_call (KA.out _))
    | (go_at_call 25; with_reducible exact quiet_call (KB.out _))
    | (go_at_call 25; with_reducible exact quiet_call (KC.out _))
    | (go_at_call 25; with_reducible exact quiet_call (KD.out _))
    | (go_at_call 44; with_reducible exact quiet_call (KP.out _))
    | (go_at_call 44; with_reducible exact quiet_call (KQ.out _))
    | (go_at_call 26; with_reducible exact quiet_call (KS.out _))))
  refine wpQuiet_nil ?_
  intro w2 hw'
  obtain ⟨⟨wq, hfq⟩, hw''⟩ := hw'
  subst hw''
  have HQ := Lib.hid hfq
  have HR2 := Lib.hid (HR.out.fr hfq id)
  clear q0 q1 q2 hfq
  refine wpList_storeT (g := w.heap.size + 1) (cs := dcells n) (old := #[.int .u64 0, .int .u64 0, .int .u64 0, .int .u64 0, .int .u64 0, .int .u64 0, .int .u64 0, .int .u64 0, .int .u64 0]) (T := 41) (n := 9) rfl rfl AreaB.digits_row HR2.out rfl rfl (AreaE.dcells_one n) ?_
  intro w3 hb3 hf3
  have HB3 := Lib.hid hb3
  have HF3 := Lib.hid hf3
  clear hb3 hf3
  go_wp2_with fail
  refine bodyPost_ret (v := .agg (dcells n)) (resT_run Try.results20 rfl AreaB.digits_row HB3.out rfl) rfl ⟨rfl, ?_⟩
  exact Fr.then (HF.out.trans HQ.out) HF3.out (fun i hi hlt => by omega)
end Go.Proofs.Ytalbaopfdejooaa.HullFa

/- Chapter 41: the walk of Far. -/
namespace Go.Proofs.Ytalbaopfdejooaa.HullFb
open Go.RowKit Base Slices RowsA WideB WideF KernA KernE AreaA HullC HullD HullE HullF HullG HullI HullJ HullL HullO HullFa Quiet
open AreaB (wcs)
set_option linter.unusedVariables false
set_option linter.unusedSimpArgs false

/-- a lies farther, or as far and comes first -/
def Far (dx dy : Int) (a b : Pn) : Prop := al b dx dy < al a dx dy ∨ (al a dx dy = al b dx dy ∧ ltB a b = true)
theorem far_trans {dx dy : Int} {a b c : Pn} (h : Far dx dy a b) (k : Far dx dy b c) : Far dx dy a c := by
  unfold Far at *
  rw [ltB_iff] at *
  generalize al a dx dy = x at *
  generalize al b dx dy = y at *
  generalize al c dx dy = z at *
  omega
theorem far_irr {dx dy : Int} {a : Pn} (h : Far dx dy a a) : False := by
  unfold Far at h
  rw [ltB_iff] at h
  omega
theorem wide_bd {p : Pn} {dx dy : Int} (hp : lie p = true) (hx : inC dx = true) (hy : inC dy = true) : -10000000000000000000000000 ≤ al p dx dy ∧ al p dx dy ≤ 10000000000000000000000000 := by
  obtain ⟨m1, m2⟩ := al_bd hp hx hy
  unfold al
  omega
theorem cmp_wide {m n : Int} (hm : -10000000000000000000000000 ≤ m ∧ m ≤ 10000000000000000000000000) (hn : -10000000000000000000000000 ≤ n ∧ n ≤ 10000000000000000000000000) (w : World) :
    Calls Try.prog 41 #[.agg (wcs m), .agg (wcs n)] w fun e w' => e = .returned (.int .i64 (cmpI m n)) ∧ Fr Nil w w' := by
  have h := WideP.Cmp_any (m / 18446744073709551616) (m % 18446744073709551616) (n / 18446744073709551616) (n % 18446744073709551616) (by omega) (by omega) (by omega) (by omega) w
  rw [show m / 18446744073709551616 * 18446744073709551616 + m % 18446744073709551616 = m by omega, show n / 18446744073709551616 * 18446744073709551616 + n % 18446744073709551616 = n by omega] at h
  exact h

set_option maxRecDepth 100000 in
set_option maxHeartbeats 4000000 in
theorem Far_none (h : List Pn) (dx dy : Int) (v : Value) (w : World) (hv : Sl EPt w v h) (hc : h = [] ∨ inC dx = false ∨ inC dy = false) :
    Calls Try.prog 18 #[v, .int .i64 dx, .int .i64 dy] w fun e w' => e = .returned (.tuple #[.agg #[.int .i64 0, .int .i64 0, .int .i64 0], .bool false]) ∧ Fr Nil w w' := by
  have KX := fun W => KernB.good_any dx W
  have KY := fun W => KernB.good_any dy W
  obtain ⟨A, c, rfl⟩ := hv.shape
  clear hv
  generalize inC dx = bx at *
  generalize inC dy = bv at *
  by_cases h0 : h = []
  · subst h0
    simp only [List.length_nil]
    clear hc KX KY
    go_enter Try.func18, Try.ntmps18
    go_wp2_with fail
    refine bodyPost_ret (v := .tuple #[.agg #[.int .i64 0, .int .i64 0, .int .i64 0], .bool false]) (by simp [results, Try.results18, go_sem]) rfl ⟨rfl, by (repeat' (with_reducible first | refine Fr.setCell ?_ (fun hlt => absurd hlt (by dsimp only; omega)) _ | refine Fr.alloc ?_ _ | refine Fr.drewN ?_ _ | refine Fr.drew ?_ | exact Fr.refl _ _))⟩
  · obtain ⟨a, tl, rfl⟩ := List.exists_cons_of_ne_nil h0
    have hl : ¬ ((a :: tl).length : Int) = 0 := by simp <;> omega
    simp only [List.length_cons, Int.natCast_add] at hl
    have hc' : bx = false ∨ (bx = true ∧ bv = false) := by
      rcases hc with e | e | e
      · exact absurd e h0
      · exact Or.inl e
      · cases bx with
        | false => exact Or.inl rfl
        | true => exact Or.inr ⟨rfl, e⟩
    have KXX := Lib.hid KX
    have KYY := Lib.hid KY
    clear hc h0 KX KY
    rcases hc' with rfl | ⟨rfl, rfl⟩
    · go_enter Try.func18, Try.ntmps18
      go_wp2_with fail
      refine (KXX.out _).mono ?_
      rintro e w1 ⟨rfl, rfl⟩
      go_wp2_with fail
      refine bodyPost_ret (v := .tuple #[.agg #[.int .i64 0, .int .i64 0, .int .i64 0], .bool false]) (by simp [results, Try.results18, go_sem]) rfl ⟨rfl, by (repeat' (with_reducible first | refine Fr.setCell ?_ (fun hlt => absurd hlt (by dsimp only; omega)) _ | refine Fr.alloc ?_ _ | refine Fr.drewN ?_ _ | refine Fr.drew ?_ | exact Fr.refl _ _))⟩
    · go_enter Try.func18, Try.ntmps18
      go_wp2_with fail
      refine (KXX.out _).mono ?_
      rintro e w1 ⟨rfl, rfl⟩
      go_wp2_with fail
      refine (KYY.out _).mono ?_
      rintro e w1 ⟨rfl, rfl⟩
      go_wp2_with fail
      refine bodyPost_ret (v := .tuple #[.agg #[.int .i64 0, .int .i64 0, .int .i64 0], .bool false]) (by simp [results, Try.results18, go_sem]) rfl ⟨rfl, by (repeat' (with_reducible first | refine Fr.setCell ?_ (fun hlt => absurd hlt (by dsimp only; omega)) _ | refine Fr.alloc ?_ _ | refine Fr.drewN ?_ _ | refine Fr.drew ?_ | exact Fr.refl _ _))⟩

set_option maxRecDepth 100000 in
set_option maxHeartbeats 16000000 in
theorem Far_some (a : Pn) (tl : List Pn) (dx dy : Int) (v : Value) (w : World) (hl : (a :: tl).length ≤ 500) (hv : Sl EPt w v (a :: tl)) (hx : inC dx = true) (hy : inC dy = true) (hlie : ∀ p ∈ a :: tl, lie p = true) (hchk : chk (a :: tl) = true) :
    Calls Try.prog 18 #[v, .int .i64 dx, .int .i64 dy] w fun e w' => ∃ p : Pn, e = .returned (.tuple #[.agg #[.int .i64 p.1, .int .i64 p.2.1, .int .i64 p.2.2], .bool true]) ∧ Fr Nil w w' ∧ p ∈ a :: tl ∧ ∀ c ∈ a :: tl, ¬ Far dx dy c p := by
  have KX := fun W => KernB.good_any dx W
  have KY := fun W => KernB.good_any dy W
  have KC := fun W (k : Sl EPt W v (a :: tl)) => check_any (a :: tl) v W hl k
  rw [hx] at KX
  rw [hy] at KY
  rw [hchk] at KC
  have KXX := Lib.hid KX
  have KYY := Lib.hid KY
  have KCC := Lib.hid KC
  have KA := Lib.hid (fun (p : Pn) (hp : p ∈ a :: tl) W => halong_any p dx dy (hlie p hp) hx hy W)
  have KM := Lib.hid (fun (p q : Pn) (hp : p ∈ a :: tl) (hq : q ∈ a :: tl) W => cmp_wide (wide_bd (hlie p hp) hx hy) (wide_bd (hlie q hq) hx hy) W)
  have SL := Lib.hid hv
  have hl2 : tl.length ≤ 500 := by simp at hl; omega
  have HG := Lib.hid (Bk.new w 34 #[.int .i64 0, .int .i64 0, .int .i64 0])
  have HF := Lib.hid ((Fr.refl Nil w).alloc (.cells #[.int .i64 0, .int .i64 0, .int .i64 0] 34))
  obtain ⟨A, c, rfl⟩ := hv.shape
  have e0 : ¬ ((a :: tl).length : Int) = 0 := by simp <;> omega
  have e1 : (0 : Int) < (a :: tl).length := by simp <;> omega
  simp only [List.length_cons, Int.natCast_add] at e0 e1
  have eb : ((tl.length : Int) + 1 == 0) = false := by rw [beq_eq_false_iff_ne]; omega
  clear hv KX KY KC hx hy hchk hlie
  go_enter Try.func18, Try.ntmps18
  go_wp2_with fail
  refine (KXX.out _).mono ?_
  rintro e w1 ⟨rfl, rfl⟩
  go_wp2_with fail
  refine (KYY.out _).mono ?_
  rintro e w1 ⟨rfl, rfl⟩
  go_wp2_with fail
  refine (KCC.out _ (SL.out.fr HF.out)).mono ?_
  rintro e w1 ⟨rfl, hf⟩
  have SW := SL.out.fr (HF.out.trans hf)
  replace HG := Lib.hid (HG.out.fr hf id)
  replace HF := Lib.hid (HF.out.trans hf)
  clear hf SL KCC KXX KYY
  rcases SW with ⟨_, e⟩ | ⟨g, o, cap, e, hcap, ha, hr⟩
  · cases e
  simp only [Value.slice.injEq] at e
  obtain ⟨rfl, _, rfl⟩ := e
  obtain ⟨a0, a1, a2⟩ := pt_at hr (i := 0) (p := a) rfl
  rw [Nat.zero_mul, Nat.add_zero] at a0 a1 a2
  have TB := Lib.hid (tail1 hcap ha hr)
  have n3 : (1 : Int) ≤ c := by simp at hcap; omega
  have n5 : (1 : Int) ≤ (tl.length : Int) + 1 := by omega
  have n7 : (tl.length : Int) + 1 ≤ c := by simp at hcap; omega
  have g6 : w.heap.size < w1.heap.size := HG.out.lt
  have hga : g < w1.heap.size := ha
  obtain ⟨r0, r1, r2, s0, s1, s2⟩ := HG.out.c3
  have HA0 := Lib.hid ha
  by_cases hc1 : c = 1
  · have htl : tl = [] := List.length_eq_zero_iff.1 (by simp at hcap; omega)
    subst hc1
    subst htl
    simp only [List.length_nil]
    clear hr hcap TB n3 n5 n7 ha hga e0 e1
    go_wp2_with fail
    refine wp_loop_rounds 1 ?_
    rw [rounds_succ]
    go_wp2_with fail
    refine bodyPost_ret (v := .tuple #[.agg #[.int .i64 a.1, .int .i64 a.2.1, .int .i64 a.2.2], .bool true]) (by simp [results, Try.results18, go_sem, g6, Nat.ne_of_lt g6, r0, r1, r2]) rfl ⟨a, rfl, ?_, by simp, fun c hc => ?_⟩
    · have hh := HF.out
      (repeat' (with_reducible first | exact hh | refine Fr.setCell ?_ (fun hlt => absurd hlt (by dsimp only; omega)) _ | refine Fr.alloc ?_ _ | refine Fr.drewN ?_ _ | refine Fr.drew ?_))
    · rw [List.mem_singleton.1 hc]; exact far_irr
  · rw [show (if c = 1 then (some ⟨g, o, none⟩ : Option Addr) else some ⟨g, o + 3, none⟩) = some ⟨g, o + 3, none⟩ from if_neg hc1] at TB
    have HB0 := Lib.hid (Bk.new w1 34 #[.int .i64 a.1, .int .i64 a.2.1, .int .i64 a.2.2])
    have HROW := Lib.hid (show Row EPt w1 g (o + 3) tl from by have h := Row.drop EPt_ok hr 1; exact h)
    clear hr hcap ha hga TB
    go_wp2_with fail
    clear a0 a1 a2 n3 n5 n7 r0 r1 r2 s0 s1 s2 e0 e1 hc1
    go_loopw [37] (fun i wr => ∃ (k : Nat) (b : Pn), k ≤ tl.length ∧ i = .int .i64 k ∧ b ∈ a :: tl ∧ (∀ (j : Nat) (c : Pn), j ≤ k → (a :: tl)[j]? = some c → ¬ Far dx dy c b) ∧ Bk wr w1.heap.size 34 #[.int .i64 b.1, .int .i64 b.2.1, .int .i64 b.2.2] ∧ Fr Nil w1 wr) (fun i _ => tl.length - (intOf i).toNat)
    case atStart =>
      refine ⟨0, a, by omega, rfl, by simp, fun j c hj h1 => ?_, HB0.out, (Fr.refl _ _).alloc _⟩
      obtain rfl : j = 0 := by omega
      obtain rfl : a = c := Option.some.inj h1
      exact far_irr
    case round =>
      obtain ⟨k, b, hk, rfl, hbm, hno, hbk, hf⟩ := hrel
      have HBM := Lib.hid hbm
      have HNO := Lib.hid hno
      have HBK := Lib.hid hbk
      have HFR := Lib.hid hf
      clear hbm hno hbk
      by_cases hlt : k < tl.length
      · obtain ⟨q, hq⟩ : ∃ q, tl[k]? = some q := ⟨tl[k], List.getElem?_eq_getElem hlt⟩
        have HQM := Lib.hid (show q ∈ a :: tl from List.mem_cons_of_mem _ (List.mem_of_getElem? hq))
        obtain ⟨d0, d1, d2⟩ := pt_at (HROW.out.fr hf HA0.out id) hq
        have HQI := Lib.hid (show (a :: tl)[k + 1]? = some q from hq)
        have e0 : (0 : Int) ≤ k := by omega
        have e1 : (k : Int) < tl.length := by omega
        have HQB := Lib.hid (Bk.new wr 34 #[.int .i64 q.1, .int .i64 q.2.1, .int .i64 q.2.2])
        have HBK1 := Lib.hid (HBK.out.alloc (.cells #[.int .i64 q.1, .int .i64 q.2.1, .int .i64 q.2.2] 34))
        have HF1 := Lib.hid (hf.alloc (.cells #[.int .i64 q.1, .int .i64 q.2.1, .int .i64 q.2.2] 34))
        obtain ⟨p0, p1, p2⟩ := KernE.quiet_c3 (S := Nil) HQB.out id
        obtain ⟨b0, b1, b2⟩ := KernE.quiet_c3 (S := Nil) HBK1.out id
        have KQ := Lib.hid (fun W => KA.out q HQM.out W)
        have KB := Lib.hid (fun W => KA.out b HBM.out W)
        have KZ := fun W => KM.out q b HQM.out HBM.out W
        obtain ⟨z, hz⟩ : ∃ z, cmpI (al q dx dy) (al b dx dy) = z := ⟨_, rfl⟩
        rw [hz] at KZ
        have HZ := Lib.hid hz
        have KZZ := Lib.hid KZ
        have KL := fun W => less_any q b W
        obtain ⟨lb, hlb⟩ : ∃ z, ltB q b = z := ⟨_, rfl⟩
        rw [hlb] at KL
        have HLB := Lib.hid hlb
        have KLL := Lib.hid KL
        clear hq hf hz KZ hlb KL
        go_wp2_with fail
        refine wp_region_quiet_fr Nil (by kernel_rfl) (by kernel_rfl) ?_
        repeat (go_big_quiet_step (first
          | (go_at_call 42; with_reducible exact quiet_call (KQ.out _))
          | (go_at_call 42; with_reducible exact quiet_call (KB.out _))
          | (go_at_call 41; with_reducible exact quiet_call (KZZ.out _))))
        refine wpQuiet_nil ?_
        intro w2 hw'
        obtain ⟨⟨wq, hfq⟩, hw''⟩ := hw'
        subst hw''
        have HF2 := Lib.hid (HF1.out.trans hfq)
        have HQ2 := Lib.hid (HQB.out.fr hfq id)
        have HB2 := Lib.hid (HBK1.out.fr hfq id)
        clear hfq p0 p1 p2 b0 b1 b2 d0 d1 d2 HFR HF1 HBK HQB HBK1 KZZ KQ KB
        obtain ⟨u0, u1, u2, v0, v1, v2⟩ := HQ2.out.c3
        obtain ⟨x0, x1, x2, y0, y1, y2⟩ := HB2.out.c3
        have HSTAY := Lib.hid (show ¬ Far dx dy q b → ∀ (j : Nat) (c : Pn), j ≤ k + 1 → (a :: tl)[j]? = some c → ¬ Far dx dy c b from fun hn j c hj h1 => by
          rcases Nat.lt_or_ge k j with h' | h'
          · obtain rfl : j = k + 1 := by omega
            rw [HQI.out] at h1
            obtain rfl := Option.some.inj h1
            exact hn
          · exact HNO.out j c h' h1)
        have HTURN := Lib.hid (show Far dx dy q b → ∀ (j : Nat) (c : Pn), j ≤ k + 1 → (a :: tl)[j]? = some c → ¬ Far dx dy c q from fun hn j c hj h1 hc => by
          rcases Nat.lt_or_ge k j with h' | h'
          · obtain rfl : j = k + 1 := by omega
            rw [HQI.out] at h1
            obtain rfl := Option.some.inj h1
            exact far_irr hc
          · exact HNO.out j c h' h1 (far_trans hc hn))
        have hcase : z = -1 ∨ (z = 0 ∧ lb = false) ∨ (z = 0 ∧ lb = true) ∨ z = 1 := by
          rw [← HZ.out]
          unfold cmpI
          cases lb <;> (repeat' split) <;> simp
        rcases hcase with rfl | ⟨rfl, rfl⟩ | ⟨rfl, rfl⟩ | rfl
        · skip
          have HFAR := Lib.hid (show ¬ Far dx dy q b from by
            have h1 := HZ.out
            have h2 := HLB.out
            unfold Far
            unfold cmpI at h1
            rw [h2]
            split at h1 <;> (try split at h1) <;> simp at h1 ⊢ <;> omega)
          go_wp2_with fail
          go_roundw
          case rel => exact ⟨k + 1, b, by omega, by go_num, HBM.out, HSTAY.out HFAR.out, HB2.out, HF2.out⟩
          case measure => simp [intOf]; omega
        · skip
          go_wp2_with fail
          refine (KLL.out _).mono ?_
          rintro e w3 ⟨rfl, hf3⟩
          replace HF2 := Lib.hid (HF2.out.trans hf3)
          replace HQ2 := Lib.hid (HQ2.out.fr hf3 id)
          replace HB2 := Lib.hid (HB2.out.fr hf3 id)
          clear hf3 u0 u1 u2 v0 v1 v2 x0 x1 x2 y0 y1 y2
          obtain ⟨u0, u1, u2, v0, v1, v2⟩ := HQ2.out.c3
          obtain ⟨x0, x1, x2, y0, y1, y2⟩ := HB2.out.c3
          have HFAR := Lib.hid (show ¬ Far dx dy q b from by
            have h1 := HZ.out
            have h2 := HLB.out
            unfold Far
            unfold cmpI at h1
            rw [h2]
            split at h1 <;> (try split at h1) <;> simp at h1 ⊢ <;> omega)
          go_wp2_with fail
          go_roundw
          case rel => exact ⟨k + 1, b, by omega, by go_num, HBM.out, HSTAY.out HFAR.out, HB2.out, HF2.out⟩
          case measure => simp [intOf]; omega
        · skip
          go_wp2_with fail
          refine (KLL.out _).mono ?_
          rintro e w3 ⟨rfl, hf3⟩
          replace HF2 := Lib.hid (HF2.out.trans hf3)
          replace HQ2 := Lib.hid (HQ2.out.fr hf3 id)
          replace HB2 := Lib.hid (HB2.out.fr hf3 id)
          clear hf3 u0 u1 u2 v0 v1 v2 x0 x1 x2 y0 y1 y2
          obtain ⟨u0, u1, u2, v0, v1, v2⟩ := HQ2.out.c3
          obtain ⟨x0, x1, x2, y0, y1, y2⟩ := HB2.out.c3
          have HB9 := Lib.hid (show Bk (((w3.setCell ⟨w1.heap.size, 0, none⟩ (.int .i64 q.1)).setCell ⟨w1.heap.size, 1, none⟩ (.int .i64 q.2.1)).setCell ⟨w1.heap.size, 2, none⟩ (.int .i64 q.2.2)) w1.heap.size 34 #[.int .i64 q.1, .int .i64 q.2.1, .int .i64 q.2.2] from ((HB2.out.put 0 _).put 1 _).put 2 _)
          have HF9 := Lib.hid (show Fr Nil w1 (((w3.setCell ⟨w1.heap.size, 0, none⟩ (.int .i64 q.1)).setCell ⟨w1.heap.size, 1, none⟩ (.int .i64 q.2.1)).setCell ⟨w1.heap.size, 2, none⟩ (.int .i64 q.2.2)) from by have hh := HF2.out; (repeat' (with_reducible first | exact hh | refine Fr.setCell ?_ (fun hlt => absurd hlt (by dsimp only; omega)) _ | refine Fr.alloc ?_ _ | refine Fr.drewN ?_ _ | refine Fr.drew ?_)))
          have HFAR := Lib.hid (show Far dx dy q b from by
            have h1 := HZ.out
            have h2 := HLB.out
            unfold Far
            unfold cmpI at h1
            rw [h2]
            split at h1 <;> (try split at h1) <;> simp at h1 ⊢ <;> omega)
          go_wp2_with fail
          go_roundw
          case rel => exact ⟨k + 1, q, by omega, by go_num, HQM.out, HTURN.out HFAR.out, HB9.out, HF9.out⟩
          case measure => simp [intOf]; omega
        · skip
          have HB9 := Lib.hid (show Bk (((w2.setCell ⟨w1.heap.size, 0, none⟩ (.int .i64 q.1)).setCell ⟨w1.heap.size, 1, none⟩ (.int .i64 q.2.1)).setCell ⟨w1.heap.size, 2, none⟩ (.int .i64 q.2.2)) w1.heap.size 34 #[.int .i64 q.1, .int .i64 q.2.1, .int .i64 q.2.2] from ((HB2.out.put 0 _).put 1 _).put 2 _)
          have HF9 := Lib.hid (show Fr Nil w1 (((w2.setCell ⟨w1.heap.size, 0, none⟩ (.int .i64 q.1)).setCell ⟨w1.heap.size, 1, none⟩ (.int .i64 q.2.1)).setCell ⟨w1.heap.size, 2, none⟩ (.int .i64 q.2.2)) from by have hh := HF2.out; (repeat' (with_reducible first | exact hh | refine Fr.setCell ?_ (fun hlt => absurd hlt (by dsimp only; omega)) _ | refine Fr.alloc ?_ _ | refine Fr.drewN ?_ _ | refine Fr.drew ?_)))
          have HFAR := Lib.hid (show Far dx dy q b from by
            have h1 := HZ.out
            have h2 := HLB.out
            unfold Far
            unfold cmpI at h1
            rw [h2]
            split at h1 <;> (try split at h1) <;> simp at h1 ⊢ <;> omega)
          go_wp2_with fail
          go_roundw
          case rel => exact ⟨k + 1, q, by omega, by go_num, HQM.out, HTURN.out HFAR.out, HB9.out, HF9.out⟩
          case measure => simp [intOf]; omega
      · obtain rfl : k = tl.length := by omega
        have HNO2 := Lib.hid (show ∀ c ∈ a :: tl, ¬ Far dx dy c b from fun c hc => by
          obtain ⟨j, hj⟩ := List.mem_iff_getElem?.1 hc
          have := (List.getElem?_eq_some_iff.1 hj).1
          exact HNO.out j c (by simp at this; omega) hj)
        have HG2 := Lib.hid (HG.out.fr hf id)
        obtain ⟨x0, x1, x2, y0, y1, y2⟩ := HBK.out.c3
        obtain ⟨r0, r1, r2, s0, s1, s2⟩ := HG2.out.c3
        have g7 : w.heap.size < wr.heap.size := HG2.out.lt
        have g8 : ¬ w1.heap.size = w.heap.size := by omega
        have g9 : ¬ w.heap.size = w1.heap.size := by omega
        clear hf
        go_wp2_with fail
        refine bodyPost_ret (v := .tuple #[.agg #[.int .i64 b.1, .int .i64 b.2.1, .int .i64 b.2.2], .bool true]) (by simp [results, Try.results18, go_sem, g6, Nat.ne_of_lt g6, r0, r1, r2]) rfl ⟨b, rfl, ?_, HBM.out, HNO2.out⟩
        have hh := HF.out.trans HFR.out
        (repeat' (with_reducible first | exact hh | refine Fr.setCell ?_ (fun hlt => absurd hlt (by dsimp only; omega)) _ | refine Fr.alloc ?_ _ | refine Fr.drewN ?_ _ | refine Fr.drew ?_))
end Go.Proofs.Ytalbaopfdejooaa.HullFb

/- Chapter 41: the law HullFar. -/
namespace Go.Proofs.Ytalbaopfdejooaa.HullFc
open Go.RowKit Base Slices RowsA WideB WideF KernA KernE AreaA HullC HullD HullE HullF HullG HullH HullI HullJ HullK HullL HullO HullR HullS HullT HullU HullFa HullFb Quiet
open AreaE (wpQuiet_loadD)
set_option linter.unusedVariables false
set_option linter.unusedSimpArgs false

theorem take_mem {M : List Pn} {k : Nat} {z q : Pn} (h : M[k]? = some z) : decide (q ∈ M.take (k + 1)) = (decide (q ∈ M.take k) || decide (z = q)) := by
  rw [Bool.eq_iff_iff, Bool.or_eq_true, decide_eq_true_iff, decide_eq_true_iff, decide_eq_true_iff, mem_take_succ h]
  constructor
  · rintro (h | h)
    · exact Or.inl h
    · exact Or.inr h.symm
  · rintro (h | h)
    · exact Or.inl h
    · exact Or.inr h.symm
theorem lex_pos {c p : Pn} (h : ltB c p = false) : ¬ lex3 c.2.1 c.2.2 c.1 p.2.1 p.2.2 p.1 < 0 := by
  have h' := (Bool.eq_false_iff.1 h)
  rw [ne_eq, ltB_iff] at h'
  unfold lex3 WideO.orI cmpI
  repeat' split
  all_goals omega
theorem hull_some {a : Pn} {tl h : List Pn} (hh : HullOf (a :: tl) h) : ∃ b r, h = b :: r := by
  obtain ⟨P, hP, ⟨rfl, rfl⟩ | ⟨t, r, rfl, _⟩⟩ := hh
  · obtain ⟨x, hx, _⟩ := hP.2.2 a (by simp)
    cases hx
  · exact ⟨t, r, rfl⟩

set_option maxRecDepth 100000 in
set_option maxHeartbeats 16000000 in
theorem far_any (l0 : List Pn) (dx dy : Int) (va : Value) (w : World) (hva : Come EPt w va l0) :
    Calls Try.prog 6 #[va, .int .i64 dx, .int .i64 dy] w fun e w' => e = .returned (.bool true) ∧ Fr Nil w w' := by
  have VA := Lib.hid hva
  have HF := Lib.hid (Fr.refl Nil w)
  have KLV := Lib.hid (fun W => lives41 W)
  have KX := fun W => KernB.coord_any dx W
  have KY := fun W => KernB.coord_any dy W
  have KN := Lib.hid (fun (h : List Pn) (hc : h = [] ∨ inC dx = false ∨ inC dy = false) v W (k : Sl EPt W v h) => Far_none h dx dy v W k hc)
  obtain ⟨bx, hbx⟩ : ∃ b, inC dx = b := ⟨_, rfl⟩
  obtain ⟨bv, hbv⟩ : ∃ b, inC dy = b := ⟨_, rfl⟩
  rw [hbx] at KX
  rw [hbv] at KY
  have KXX := Lib.hid KX
  have KYY := Lib.hid KY
  have HX := Lib.hid hbx
  have HY := Lib.hid hbv
  clear hva hbx hbv KX KY
  go_enter Try.func6, Try.ntmps6
  go_wp2_with fail
  refine (few12c VA.out).mono ?_
  rintro e w1 ⟨u1, rfl, hf, ho⟩
  have SL := Lib.hid (ho.sl EPt_ok)
  replace HF := Lib.hid (HF.out.trans hf)
  clear hf ho VA
  have hll : (l0.take 12).length ≤ 12 := by rw [List.length_take]; omega
  generalize l0.take 12 = l at *
  go_wp2_with fail
  refine (few12 hll SL.out).mono ?_
  rintro e w2 ⟨u2, rfl, hf, ho⟩
  have S2 := Lib.hid (ho.sl EPt_ok)
  replace SL := Lib.hid (SL.out.fr hf)
  replace HF := Lib.hid (HF.out.trans hf)
  clear hf ho
  rcases bad_or l with hb | hg
  · have ZA := Lib.hid (show l.all gd = false by obtain ⟨p, hp, hq⟩ := hb; exact List.all_eq_false.2 ⟨p, hp, by simp [hq]⟩)
    have BAD := Lib.hid hb
    clear hb
    go_wp2_with fail
    refine (Of_bad l _ _ (by omega) S2.out BAD.out).mono ?_
    rintro e wz1 ⟨rfl, hf⟩
    replace SL := Lib.hid (SL.out.fr hf)
    replace HF := Lib.hid (HF.out.trans hf)
    clear hf
    go_wp2_with fail
    refine (few20 (l := []) (by simp) (Or.inl ⟨rfl, rfl⟩)).mono ?_
    rintro e wz2 ⟨u3, rfl, hf, ho⟩
    replace SL := Lib.hid (SL.out.fr hf)
    replace HF := Lib.hid (HF.out.trans hf)
    have S3 := Lib.hid (ho.sl EPt_ok)
    clear ho hf
    go_wp2_with fail
    refine (KN.out [] (Or.inl rfl) u3 _ S3.out).mono ?_
    rintro e wz3 ⟨rfl, hf⟩
    replace SL := Lib.hid (SL.out.fr hf)
    replace S3 := Lib.hid (S3.out.fr hf)
    replace HF := Lib.hid (HF.out.trans hf)
    clear hf
    have HB := Lib.hid (Bk.new wz3 34 #[.int .i64 0, .int .i64 0, .int .i64 0])
    replace SL := Lib.hid (SL.out.fr ((Fr.refl Nil wz3).alloc (.cells #[.int .i64 0, .int .i64 0, .int .i64 0] 34)))
    replace HF := Lib.hid (HF.out.alloc (.cells #[.int .i64 0, .int .i64 0, .int .i64 0] 34))
    go_wp2_with fail
    have KG := allgood_any l u1 (wz3.alloc (.cells #[.int .i64 0, .int .i64 0, .int .i64 0] 34)) (by omega) SL.out
    rw [ZA.out] at KG
    refine (KG).mono ?_
    rintro e wz11 ⟨rfl, hf⟩
    replace SL := Lib.hid (SL.out.fr hf)
    replace HB := Lib.hid (HB.out.fr hf id)
    replace HF := Lib.hid (HF.out.trans hf)
    clear hf
    obtain ⟨c0, c1, c2, f0, f1, f2⟩ := HB.out.c3
    go_wp2_with fail
    refine (KLV.out _).mono ?_
    rintro e wz12 ⟨rfl, hf⟩
    replace SL := Lib.hid (SL.out.fr hf)
    replace HB := Lib.hid (HB.out.fr hf id)
    replace HF := Lib.hid (HF.out.trans hf)
    clear hf
    clear c0 c1 c2 f0 f1 f2
    go_wp2_with fail
    go_ret
    exact ⟨rfl, HF.out⟩
  · have ZA := Lib.hid (show l.all gd = true from List.all_eq_true.2 hg)
    have GL := Lib.hid hg
    clear hg
    go_wp2_with fail
    refine (Of_good l _ _ (by omega) S2.out GL.out).mono ?_
    rintro e wz1 ⟨uh, h, rfl, hf, ho, hh⟩
    replace SL := Lib.hid (SL.out.fr hf)
    replace HF := Lib.hid (HF.out.trans hf)
    have SH := Lib.hid (ho.sl EPt_ok)
    clear ho hf
    have HH := Lib.hid hh
    have hhl : h.length ≤ 12 := Nat.le_trans (hull_len hh) hll
    clear hh S2
    go_wp2_with fail
    refine (few20 (by omega) SH.out).mono ?_
    rintro e wz2 ⟨u3, rfl, hf, ho⟩
    replace SL := Lib.hid (SL.out.fr hf)
    replace SH := Lib.hid (SH.out.fr hf)
    replace HF := Lib.hid (HF.out.trans hf)
    have S3 := Lib.hid (ho.sl EPt_ok)
    clear ho hf
    rcases l with _ | ⟨a, tl⟩
    · have HN := Lib.hid (show h = [] from List.length_eq_zero_iff.1 (by have := hull_len HH.out; simpa using this))
      obtain ⟨A1, c1, rfl⟩ := SL.out.shape
      simp only [List.length_nil] at *
      go_wp2_with fail
      refine (KN.out h (Or.inl HN.out) u3 _ S3.out).mono ?_
      rintro e wz3 ⟨rfl, hf⟩
      replace SL := Lib.hid (SL.out.fr hf)
      replace HF := Lib.hid (HF.out.trans hf)
      clear hf
      have HB := Lib.hid (Bk.new wz3 34 #[.int .i64 0, .int .i64 0, .int .i64 0])
      replace SL := Lib.hid (SL.out.fr ((Fr.refl Nil wz3).alloc (.cells #[.int .i64 0, .int .i64 0, .int .i64 0] 34)))
      replace HF := Lib.hid (HF.out.alloc (.cells #[.int .i64 0, .int .i64 0, .int .i64 0] 34))
      go_wp2_with fail
      have KG := allgood_any [] (.slice A1 0 c1) (wz3.alloc (.cells #[.int .i64 0, .int .i64 0, .int .i64 0] 34)) (by simp) SL.out
      rw [ZA.out] at KG
      refine (KG).mono ?_
      rintro e wz21 ⟨rfl, hf⟩
      replace HB := Lib.hid (HB.out.fr hf id)
      replace HF := Lib.hid (HF.out.trans hf)
      clear hf
      clear KG
      obtain ⟨c0, c1, c2, f0, f1, f2⟩ := HB.out.c3
      go_wp2_with fail
      refine (KLV.out _).mono ?_
      rintro e wz22 ⟨rfl, hf⟩
      replace HB := Lib.hid (HB.out.fr hf id)
      replace HF := Lib.hid (HF.out.trans hf)
      clear hf
      clear c0 c1 c2 f0 f1 f2
      go_wp2_with fail
      go_ret
      exact ⟨rfl, HF.out⟩
    · have e0 : ¬ ((a :: tl).length : Int) = 0 := by simp <;> omega
      simp only [List.length_cons, Int.natCast_add] at e0
      have eb : ((tl.length : Int) + 1 == 0) = false := by rw [beq_eq_false_iff_ne]; omega
      obtain ⟨A1, c1, rfl⟩ := SL.out.shape
      rcases bx with _ | _
      · skip
        go_wp2_with fail
        refine (KN.out h (Or.inr (Or.inl HX.out)) u3 _ S3.out).mono ?_
        rintro e wz3 ⟨rfl, hf⟩
        replace SL := Lib.hid (SL.out.fr hf)
        replace HF := Lib.hid (HF.out.trans hf)
        clear hf
        have HB := Lib.hid (Bk.new wz3 34 #[.int .i64 0, .int .i64 0, .int .i64 0])
        replace SL := Lib.hid (SL.out.fr ((Fr.refl Nil wz3).alloc (.cells #[.int .i64 0, .int .i64 0, .int .i64 0] 34)))
        replace HF := Lib.hid (HF.out.alloc (.cells #[.int .i64 0, .int .i64 0, .int .i64 0] 34))
        go_wp2_with fail
        have KG := allgood_any (a :: tl) (.slice A1 (a :: tl).length c1) (wz3.alloc (.cells #[.int .i64 0, .int .i64 0, .int .i64 0] 34)) (by omega) SL.out
        rw [ZA.out] at KG
        refine (KG).mono ?_
        rintro e wz21 ⟨rfl, hf⟩
        replace HB := Lib.hid (HB.out.fr hf id)
        replace HF := Lib.hid (HF.out.trans hf)
        clear hf
        clear KG
        go_wp2_with fail
        refine (KXX.out _).mono ?_
        rintro e wc1 ⟨rfl, rfl⟩
        obtain ⟨c0, c1, c2, f0, f1, f2⟩ := HB.out.c3
        go_wp2_with fail
        refine (KLV.out _).mono ?_
        rintro e wz22 ⟨rfl, hf⟩
        replace HB := Lib.hid (HB.out.fr hf id)
        replace HF := Lib.hid (HF.out.trans hf)
        clear hf
        clear c0 c1 c2 f0 f1 f2
        go_wp2_with fail
        go_ret
        exact ⟨rfl, HF.out⟩
      rcases bv with _ | _
      · skip
        go_wp2_with fail
        refine (KN.out h (Or.inr (Or.inr HY.out)) u3 _ S3.out).mono ?_
        rintro e wz3 ⟨rfl, hf⟩
        replace SL := Lib.hid (SL.out.fr hf)
        replace HF := Lib.hid (HF.out.trans hf)
        clear hf
        have HB := Lib.hid (Bk.new wz3 34 #[.int .i64 0, .int .i64 0, .int .i64 0])
        replace SL := Lib.hid (SL.out.fr ((Fr.refl Nil wz3).alloc (.cells #[.int .i64 0, .int .i64 0, .int .i64 0] 34)))
        replace HF := Lib.hid (HF.out.alloc (.cells #[.int .i64 0, .int .i64 0, .int .i64 0] 34))
        go_wp2_with fail
        have KG := allgood_any (a :: tl) (.slice A1 (a :: tl).length c1) (wz3.alloc (.cells #[.int .i64 0, .int .i64 0, .int .i64 0] 34)) (by omega) SL.out
        rw [ZA.out] at KG
        refine (KG).mono ?_
        rintro e wz21 ⟨rfl, hf⟩
        replace HB := Lib.hid (HB.out.fr hf id)
        replace HF := Lib.hid (HF.out.trans hf)
        clear hf
        clear KG
        go_wp2_with fail
        refine (KXX.out _).mono ?_
        rintro e wc1 ⟨rfl, rfl⟩
        go_wp2_with fail
        refine (KYY.out _).mono ?_
        rintro e wc2 ⟨rfl, rfl⟩
        obtain ⟨c0, c1, c2, f0, f1, f2⟩ := HB.out.c3
        go_wp2_with fail
        refine (KLV.out _).mono ?_
        rintro e wz22 ⟨rfl, hf⟩
        replace HB := Lib.hid (HB.out.fr hf id)
        replace HF := Lib.hid (HF.out.trans hf)
        clear hf
        clear c0 c1 c2 f0 f1 f2
        go_wp2_with fail
        go_ret
        exact ⟨rfl, HF.out⟩
      obtain ⟨b, hr, rfl⟩ := hull_some HH.out
      have HCK := Lib.hid (show chk (b :: hr) = true from chk_iff.2 ⟨fun p hp => GL.out p (hull_sub HH.out p hp), hull_hull HH.out⟩)
      have HLI := Lib.hid (show ∀ p ∈ b :: hr, lie p = true from fun p hp => gd_lie (GL.out p (hull_sub HH.out p hp)))
      have hr12 : hr.length + 1 ≤ 12 := hhl
      have eh : ((hr.length : Int) + 1 == 0) = false := by rw [beq_eq_false_iff_ne]; omega
      go_wp2_with fail
      refine (Far_some b hr dx dy u3 _ (by omega) S3.out HX.out HY.out HLI.out HCK.out).mono ?_
      rintro e wz3 ⟨p, rfl, hf, hpm, hpf⟩
      replace SL := Lib.hid (SL.out.fr hf)
      replace SH := Lib.hid (SH.out.fr hf)
      replace HF := Lib.hid (HF.out.trans hf)
      clear hf
      have HPM := Lib.hid hpm
      have HPF := Lib.hid hpf
      clear hpm hpf
      have HLP := Lib.hid (HLI.out p HPM.out)
      have HB := Lib.hid (Bk.new wz3 34 #[.int .i64 p.1, .int .i64 p.2.1, .int .i64 p.2.2])
      replace SL := Lib.hid (SL.out.fr ((Fr.refl Nil wz3).alloc (.cells #[.int .i64 p.1, .int .i64 p.2.1, .int .i64 p.2.2] 34)))
      replace SH := Lib.hid (SH.out.fr ((Fr.refl Nil wz3).alloc (.cells #[.int .i64 p.1, .int .i64 p.2.1, .int .i64 p.2.2] 34)))
      replace HF := Lib.hid (HF.out.alloc (.cells #[.int .i64 p.1, .int .i64 p.2.1, .int .i64 p.2.2] 34))
      go_wp2_with fail
      have KG := allgood_any (a :: tl) (.slice A1 (a :: tl).length c1) (wz3.alloc (.cells #[.int .i64 p.1, .int .i64 p.2.1, .int .i64 p.2.2] 34)) (by omega) SL.out
      rw [ZA.out] at KG
      refine (KG).mono ?_
      rintro e wz21 ⟨rfl, hf⟩
      replace SH := Lib.hid (SH.out.fr hf)
      replace HB := Lib.hid (HB.out.fr hf id)
      replace HF := Lib.hid (HF.out.trans hf)
      clear hf
      clear KG
      go_wp2_with fail
      refine (KXX.out _).mono ?_
      rintro e wc1 ⟨rfl, rfl⟩
      go_wp2_with fail
      refine (KYY.out _).mono ?_
      rintro e wc2 ⟨rfl, rfl⟩
      obtain ⟨c0, c1, c2, f0, f1, f2⟩ := HB.out.c3
      have KAL := fun W => ralong_any p dx dy HLP.out HX.out HY.out W
      unfold dcells at KAL
      have KALL := Lib.hid KAL
      clear KAL
      go_wp2_with fail
      refine (KALL.out _).mono ?_
      rintro e wz22 ⟨rfl, hf⟩
      replace SH := Lib.hid (SH.out.fr hf)
      replace HB := Lib.hid (HB.out.fr hf id)
      replace HF := Lib.hid (HF.out.trans hf)
      clear hf
      clear c0 c1 c2 f0 f1 f2 e0 eb
      have HD := Lib.hid (Bk.new wz22 41 (dcells (al p dx dy)))
      have HFD : Fr Nil wz22 (wz22.alloc (.cells (dcells (al p dx dy)) 41)) := (Fr.refl Nil wz22).alloc (.cells (dcells (al p dx dy)) 41)
      replace HB := Lib.hid (HB.out.fr HFD id)
      replace SH := Lib.hid (SH.out.fr HFD)
      replace HF := Lib.hid (HF.out.trans HFD)
      obtain ⟨W0, hW0⟩ : ∃ W0, wz22.alloc (.cells (dcells (al p dx dy)) 41) = W0 := ⟨_, rfl⟩
      rw [hW0] at HD HB SH HF
      have HW0 := Lib.hid hW0
      clear hW0 HFD
      go_wp2_with fail
      change Code.wp _ _ _ _ (wz22.alloc (.cells (dcells (al p dx dy)) 41))
      rw [HW0.out]
      go_loopw [11, 13] (fun v11 i wr => ∃ (k : Nat) (ib : Bool), k ≤ hr.length + 1 ∧ i = .int .i64 k ∧ v11 = .bool ib ∧ decide (p ∈ (b :: hr).take k) = ib ∧ Fr Nil W0 wr) (fun _ i _ => hr.length + 1 - (intOf i).toNat)
      case atStart => exact ⟨0, false, by omega, rfl, rfl, by simp, Fr.refl _ _⟩
      case round =>
        obtain ⟨k, ib, hk, rfl, rfl, hib, hf⟩ := hrel
        have HFR := Lib.hid hf
        have HT := Lib.hid hib
        clear hib
        by_cases hlt : k < hr.length + 1
        · rcases SH.out.fr hf with ⟨_, e⟩ | ⟨g, o, cap, rfl, hcap, ha, hr0⟩
          · cases e
          obtain ⟨c, hc⟩ : ∃ c, (b :: hr)[k]? = some c := ⟨(b :: hr)[k], List.getElem?_eq_getElem (by simpa using hlt)⟩
          have hcm := List.mem_of_getElem? hc
          have hlc := HLI.out c hcm
          have HPC := Lib.hid (HPF.out c hcm)
          have HN := Lib.hid (take_mem (q := p) hc)
          have HR0 := Lib.hid (fun W (h : Fr Nil wr W) => pt_at (hr0.fr h ha id) hc)
          have HBW := Lib.hid (HB.out.fr hf id)
          have HDW := Lib.hid (HD.out.fr hf id)
          have KC := Lib.hid (fun W => ralong_any c dx dy hlc HX.out HY.out W)
          have m1 := wide_bd hlc HX.out HY.out
          have m2 := wide_bd HLP.out HX.out HY.out
          have KZ := fun W => WideF.cmp_any (al c dx dy) (al p dx dy) W (by omega) (by omega) (by omega) (by omega)
          obtain ⟨z, hz⟩ : ∃ z, cmpI (al c dx dy) (al p dx dy) = z := ⟨_, rfl⟩
          rw [hz] at KZ
          have KZZ := Lib.hid KZ
          have KT := fun W => KernG.three_any c.2.1 c.2.2 c.1 p.2.1 p.2.2 p.1 W
          obtain ⟨z3, hz3⟩ : ∃ z, lex3 c.2.1 c.2.2 c.1 p.2.1 p.2.2 p.1 = z := ⟨_, rfl⟩
          rw [hz3] at KT
          have KTT := Lib.hid KT
          have HZC := Lib.hid (show z = -1 ∨ (z = 0 ∧ ¬ z3 < 0) from by
            have h1 := HPC.out
            unfold Far at h1
            rw [← hz, ← hz3]
            unfold cmpI
            by_cases k1 : al c dx dy < al p dx dy
            · exact Or.inl (if_pos k1)
            · refine Or.inr ⟨?_, lex_pos ?_⟩
              · rw [if_neg k1, if_neg (by omega)]
              · rw [Bool.eq_false_iff]
                intro k2
                exact h1 (Or.inr ⟨by omega, k2⟩))
          obtain ⟨d0, d1, d2⟩ := HR0.out wr (Fr.refl _ _)
          have e2 : (0 : Int) ≤ k := by omega
          have e3 : (k : Int) < hr.length + 1 := by omega
          have q0 := fun (y : FrW Nil wr) => cell_q d0 y
          have q1 := fun (y : FrW Nil wr) => cell_q d1 y
          have q2 := fun (y : FrW Nil wr) => cell_q d2 y
          have HDQ := Lib.hid (show ∀ W, (∃ y : FrW Nil wr, W = y.val) → Bk W wz22.heap.size 41 (dcells (al p dx dy)) from fun W hW => by
            obtain ⟨y, rfl⟩ := hW
            exact HDW.out.fr y.fr id)
          clear hf hc hcm hlc hz KZ hz3 KT hr0 m1 m2 d0 d1 d2
          go_wp2_with fail
          refine wp_region_quiet_fr Nil (by kernel_rfl) (by kernel_rfl) ?_
          repeat (first
            | ((with_reducible refine wpQuiet_loadD (dst := some 82) ?_ ?_ HDQ.out ?_); rfl; rfl; simp only [Act.put, List.getElem_toArray, List.getElem_cons_zero, List.getElem_cons_succ, List.setIfInBounds_toArray, List.set_cons_zero, List.set_cons_succ])
            | (go_big_quiet_step (first
              | (go_at_call 20; with_reducible exact quiet_call (KC.out _))
              | (go_at_call 21; with_reducible exact quiet_call (KZZ.out _)))))
          refine wpQuiet_nil ?_
          intro w2 hw'
          obtain ⟨⟨wq, hfq⟩, hw''⟩ := hw'
          subst hw''
          have HF2 := Lib.hid hfq
          clear hfq q0 q1 q2 HDQ KC KZZ
          obtain ⟨d0, d1, d2⟩ := HR0.out w2 HF2.out
          obtain ⟨c0, c1', c2, f0, f1, f2⟩ := (HBW.out.fr HF2.out id).c3
          go_upto_region 13 with fail
          go_cut [11] (fun v11 wx => ∃ ic : Bool, v11 = .bool ic ∧ decide (p ∈ (b :: hr).take (k + 1)) = ic ∧ Fr Nil w2 wx)
          case first =>
            rcases ib with _ | _
            · by_cases k0 : c.1 = p.1
              · by_cases k1 : c.2.1 = p.2.1
                · by_cases k2 : c.2.2 = p.2.2
                  · skip
                    have HE := Lib.hid (show decide (p ∈ (b :: hr).take (k + 1)) = true by rw [HN.out, HT.out]; rw [show c = p from Prod.ext k0 (Prod.ext k1 k2)]; simp)
                    go_wp2_with fail
                    go_quiet (fail)
                    go_wp2_with fail
                    go_meet
                    exact ⟨true, rfl, HE.out, (Fr.refl _ _).drewN _⟩
                  · skip
                    have HE := Lib.hid (show decide (p ∈ (b :: hr).take (k + 1)) = false by rw [HN.out, HT.out]; rw [decide_eq_false (fun e => k2 (congrArg (fun q : Pn => q.2.2) e))]; rfl)
                    go_wp2_with fail
                    go_quiet (fail)
                    go_wp2_with fail
                    go_meet
                    exact ⟨false, rfl, HE.out, (Fr.refl _ _).drewN _⟩
                · skip
                  have HE := Lib.hid (show decide (p ∈ (b :: hr).take (k + 1)) = false by rw [HN.out, HT.out]; rw [decide_eq_false (fun e => k1 (congrArg (fun q : Pn => q.2.1) e))]; rfl)
                  go_wp2_with fail
                  go_quiet (fail)
                  go_wp2_with fail
                  go_meet
                  exact ⟨false, rfl, HE.out, (Fr.refl _ _).drewN _⟩
              · skip
                have HE := Lib.hid (show decide (p ∈ (b :: hr).take (k + 1)) = false by rw [HN.out, HT.out]; rw [decide_eq_false (fun e => k0 (congrArg (fun q : Pn => q.1) e))]; rfl)
                go_wp2_with fail
                go_quiet (fail)
                go_wp2_with fail
                go_meet
                exact ⟨false, rfl, HE.out, (Fr.refl _ _).drewN _⟩
            · skip
              have HE := Lib.hid (show decide (p ∈ (b :: hr).take (k + 1)) = true by rw [HN.out, HT.out]; rfl)
              go_wp2_with fail
              go_quiet (fail)
              go_wp2_with fail
              go_meet
              exact ⟨true, rfl, HE.out, (Fr.refl _ _).drewN _⟩
          case rest =>
            obtain ⟨ic, rfl, hic, hfc⟩ := hcut
            have HIC := Lib.hid hic
            have HF3 := Lib.hid (HF2.out.trans hfc)
            clear hic hfc d0 d1 d2 c0 c1' c2 f0 f1 f2 HF2
            obtain ⟨d0, d1, d2⟩ := HR0.out wc HF3.out
            obtain ⟨c0, c1', c2, f0, f1, f2⟩ := (HBW.out.fr HF3.out id).c3
            have q0 := fun (y : FrW Nil wc) => cell_q d0 y
            have q1 := fun (y : FrW Nil wc) => cell_q d1 y
            have q2 := fun (y : FrW Nil wc) => cell_q d2 y
            have r0 := fun (y : FrW Nil wc) => cell_q c0 y
            have r1 := fun (y : FrW Nil wc) => cell_q c1' y
            have r2 := fun (y : FrW Nil wc) => cell_q c2 y
            clear d0 d1 d2 c0 c1' c2 f0 f1 f2
            rcases HZC.out with rfl | ⟨rfl, hz3⟩
            all_goals
              go_wp2_with fail
              refine wp_region_quiet_fr Nil (by kernel_rfl) (by kernel_rfl) ?_
              repeat (go_big_quiet_step (first
                | (go_at_call 22; with_reducible exact quiet_call (KTT.out _))))
              refine wpQuiet_nil ?_
              intro w4 hw'
              obtain ⟨⟨wq, hfq⟩, hw''⟩ := hw'
              subst hw''
              have HF4 := Lib.hid ((HFR.out.trans HF3.out).trans hfq)
              clear hfq q0 q1 q2 r0 r1 r2
              go_wp2_with fail
              refine ⟨?_, ?measure⟩
              (repeat apply Exists.intro)
              refine ⟨?rel, rfl⟩
              case rel => exact ⟨k + 1, ic, by omega, by go_num, rfl, HIC.out, HF4.out⟩
              case measure => simp [intOf]; omega
        · obtain rfl : k = hr.length + 1 := by omega
          have hib : ib = true := by
            rw [← HT.out]
            refine decide_eq_true ?_
            rw [List.take_of_length_le (by simp)]
            exact HPM.out
          subst hib
          obtain ⟨A2, c2, rfl⟩ := SH.out.shape
          replace HF := Lib.hid (HF.out.trans hf)
          clear hf
          go_wp2_with fail
          refine (KLV.out _).mono ?_
          rintro e w9 ⟨rfl, hf⟩
          replace HF := Lib.hid (HF.out.trans hf)
          go_wp2_with fail
          go_ret
          exact ⟨rfl, HF.out⟩
end Go.Proofs.Ytalbaopfdejooaa.HullFc

