/- Chapter 2: the walk of the law WideSums. -/
import Derived.Test.YtaeigighenponaaWideS
import Derived.Deep.RegionHeld3
import Derived.Deep.DeepCutAuto
namespace Go.Proofs.Ytaeigighenponaa.WideV
open Go.RowKit Base WideA WideB WideE WideF Quiet
set_option linter.unusedVariables false
set_option linter.unusedSimpArgs false

/-- a pointer to a wide number of its own, and whether there is one -/
def Got (h l : Int) (b : Bool) (w0 : World) (u v : Value) (w : World) : Prop :=
  ∃ g, u = .pointer (some ⟨g, 0, none⟩) ∧ v = .bool b ∧ Bk w g 24 #[.int .i64 h, .int .u64 l] ∧ Fr Nil w0 w

set_option maxRecDepth 100000 in
set_option maxHeartbeats 8000000 in
theorem sums_any (ah al bh bl : Int) (w : World) (h1 : -9223372036854775808 ≤ ah ∧ ah ≤ 9223372036854775807) (h2 : 0 ≤ al ∧ al ≤ 18446744073709551615) (h3 : -9223372036854775808 ≤ bh ∧ bh ≤ 9223372036854775807) (h4 : 0 ≤ bl ∧ bl ≤ 18446744073709551615) :
    Calls Try.prog 7 #[.agg #[.int .i64 ah, .int .u64 al], .agg #[.int .i64 bh, .int .u64 bl]] w fun e w' => e = .returned (.bool true) ∧ Fr Nil w w' := by
  obtain ⟨m, hm⟩ : ∃ m, ah * 18446744073709551616 + al = m := ⟨_, rfl⟩
  obtain ⟨n, hn⟩ : ∃ n, bh * 18446744073709551616 + bl = n := ⟨_, rfl⟩
  have kS := fun W => WideH.add_any ah al bh bl h1 h2 h3 h4 W
  have kD := fun W => WideI.Sub_any ah al bh bl h1 h2 h3 h4 W
  have kN := fun W => WideI.Neg_any ah al h1 h2 W
  have kA := fun W => of_any ah al W h1.1 h1.2 h2.1 h2.2
  have kB := fun W => of_any bh bl W h3.1 h3.2 h4.1 h4.2
  have kAB := fun W => WideD.add_any m n W
  have kNB := fun W => WideD.neg_any n W
  have kAN := fun W => WideD.add_any m (-n) W
  have kNA := fun W => WideD.neg_any m W
  have kX := fun W => wide_any (m + n) W (by omega) (by omega)
  have kY := fun W => wide_any (m - n) W (by omega) (by omega)
  have kZ := fun W => wide_any (-m) W (by omega) (by omega)
  simp only [show m + -n = m - n by omega] at kAN
  simp only [hm, hn] at kS kD kN kA kB
  obtain ⟨sh, sl, sb, es, _⟩ := WideI.told_parts (m + n)
  obtain ⟨dh, dl, db, ed, _⟩ := WideI.told_parts (m - n)
  obtain ⟨zh, zl, zb, ez, _⟩ := WideI.told_parts (-m)
  rw [es] at kS kX
  rw [ed] at kD kY
  rw [ez] at kN kZ
  have KS := Lib.hid kS
  have KD := Lib.hid kD
  have KN := Lib.hid kN
  have KA := Lib.hid kA
  have KB := Lib.hid kB
  have KAB := Lib.hid kAB
  have KNB := Lib.hid kNB
  have KAN := Lib.hid kAN
  have KNA := Lib.hid kNA
  have KX := Lib.hid kX
  have KY := Lib.hid kY
  have KZ := Lib.hid kZ
  clear kS kD kN kA kB kAB kNB kAN kNA kX kY kZ es ed ez hm hn h1 h2 h3 h4
  generalize dcells (m + n) = ds at *
  generalize dcells (m - n) = dd at *
  generalize dcells (-m) = dz at *
  generalize dcells (-n) = dy at *
  generalize dcells m = dm at *
  generalize dcells n = dn at *
  go_enter Try.func7, Try.ntmps7
  go_wp2_with fail
  have hA : Bk ((w.alloc (.cells #[.int .i64 ah, .int .u64 al] 24)).alloc (.cells #[.int .i64 bh, .int .u64 bl] 24)) w.heap.size 24 #[.int .i64 ah, .int .u64 al] := by (repeat' (first | ((with_reducible refine new' ?_); simp; done) | with_reducible refine Bk.alloc ?_ _ | with_reducible refine Bk.far ?_ (by dsimp only; omega) _ | with_reducible refine Bk.drewN ?_ _ | with_reducible refine Bk.drew ?_))
  have hB : Bk ((w.alloc (.cells #[.int .i64 ah, .int .u64 al] 24)).alloc (.cells #[.int .i64 bh, .int .u64 bl] 24)) (w.heap.size + 1) 24 #[.int .i64 bh, .int .u64 bl] := by (repeat' (first | ((with_reducible refine new' ?_); simp; done) | with_reducible refine Bk.alloc ?_ _ | with_reducible refine Bk.far ?_ (by dsimp only; omega) _ | with_reducible refine Bk.drewN ?_ _ | with_reducible refine Bk.drew ?_))
  have g0 : Fr Nil w ((w.alloc (.cells #[.int .i64 ah, .int .u64 al] 24)).alloc (.cells #[.int .i64 bh, .int .u64 bl] 24)) := by (repeat' (with_reducible first | refine Fr.setCell ?_ (fun hlt => absurd hlt (by dsimp only; omega)) _ | refine Fr.alloc ?_ _ | refine Fr.drewN ?_ _ | refine Fr.drew ?_ | exact Fr.refl _ _))
  generalize ((w.alloc (.cells #[.int .i64 ah, .int .u64 al] 24)).alloc (.cells #[.int .i64 bh, .int .u64 bl] 24)) = W0 at hA hB g0 ⊢
  refine (KS.out _).mono ?_
  rintro e w1 ⟨rfl, hf1⟩
  have hA1 := (hA.fr hf1 id).alloc (.cells #[.int .i64 sh, .int .u64 sl] 24)
  have hB1 := (hB.fr hf1 id).alloc (.cells #[.int .i64 sh, .int .u64 sl] 24)
  have hS1 := Bk.new w1 24 #[.int .i64 sh, .int .u64 sl]
  have g1 := (g0.trans hf1).alloc (.cells #[.int .i64 sh, .int .u64 sl] 24)
  obtain ⟨a0, a1, _, _⟩ := hA1.c2
  obtain ⟨b0, b1, _, _⟩ := hB1.c2
  clear hf1 hA hB g0
  go_wp2_with fail
  refine (KD.out _).mono ?_
  rintro e w2 ⟨rfl, hf2⟩
  clear a0 a1 b0 b1
  have hA2 := (hA1.fr hf2 id).alloc (.cells #[.int .i64 dh, .int .u64 dl] 24)
  have hB2 := (hB1.fr hf2 id).alloc (.cells #[.int .i64 dh, .int .u64 dl] 24)
  have hS2 := (hS1.fr hf2 id).alloc (.cells #[.int .i64 dh, .int .u64 dl] 24)
  have hD2 := Bk.new w2 24 #[.int .i64 dh, .int .u64 dl]
  have g2 := (g1.trans hf2).alloc (.cells #[.int .i64 dh, .int .u64 dl] 24)
  obtain ⟨a0, a1, _, _⟩ := hA2.c2
  clear hf2 hA1 hB1 hS1 g1
  go_wp2_with fail
  refine (KN.out _).mono ?_
  rintro e w3 ⟨rfl, hf3⟩
  clear a0 a1
  have hA3 := (hA2.fr hf3 id).alloc (.cells #[.int .i64 zh, .int .u64 zl] 24)
  have hB3 := (hB2.fr hf3 id).alloc (.cells #[.int .i64 zh, .int .u64 zl] 24)
  have hS3 := (hS2.fr hf3 id).alloc (.cells #[.int .i64 zh, .int .u64 zl] 24)
  have hD3 := (hD2.fr hf3 id).alloc (.cells #[.int .i64 zh, .int .u64 zl] 24)
  have hN3 := Bk.new w3 24 #[.int .i64 zh, .int .u64 zl]
  have g3 := (g2.trans hf3).alloc (.cells #[.int .i64 zh, .int .u64 zl] 24)
  clear hf3 hA2 hB2 hS2 hD2 g2
  go_upto_region 4 with fail
  generalize w1.heap.size = gs at *
  generalize w2.heap.size = gd at *
  generalize hw3 : w3.heap.size = gn at *
  generalize (w3.alloc (.cells #[.int .i64 zh, .int .u64 zl] 24)) = W3 at *
  clear hw3
  obtain ⟨a0, a1, _, _⟩ := hA3.c2
  obtain ⟨b0, b1, _, _⟩ := hB3.c2
  have l1 := hA3.lt
  have l2 := hB3.lt
  have HA := Lib.hid hA3
  have HB := Lib.hid hB3
  have HS := Lib.hid hS3
  have HD := Lib.hid hD3
  have HN := Lib.hid hN3
  have G3 := Lib.hid g3
  clear hA3 hB3 hS3 hD3 hN3 g3
  go_cut [11, 12] (fun u v wc => Got sh sl sb W3 u v wc)
  case first =>
    go_region_held3 (fun w' => w.heap.size < w'.heap.size ∧ w.heap.size + 1 < w'.heap.size ∧ w'.cell? ⟨w.heap.size, 0, none⟩ = some (.int .i64 ah) ∧ w'.cell? ⟨w.heap.size, 1, none⟩ = some (.int .u64 al) ∧ w'.cell? ⟨w.heap.size + 1, 0, none⟩ = some (.int .i64 bh) ∧ w'.cell? ⟨w.heap.size + 1, 1, none⟩ = some (.int .u64 bl)) (first | (with_reducible exact ⟨z1, z2, y0, y1, y2, y3⟩) | (((repeat' apply And.intro) <;> (first | (go_keep; done) | (simp; done) | (simp; omega) | (rw [World.cell?_setCell_far _ _ _ _ (by dsimp only; omega), World.cell?_setCell_far _ _ _ _ (by dsimp only; omega)]; first | assumption | (go_keep; done)))); done))
      (first | (go_at_call 16; with_reducible refine (KA.out _).mono ?_; rintro e wA ⟨rfl, FA⟩; have z1 := Nat.lt_of_lt_of_le (show w.heap.size < _ by first | assumption | (simp; done) | (simp; omega)) FA.size; have z2 := Nat.lt_of_lt_of_le (show w.heap.size + 1 < _ by first | assumption | (simp; done) | (simp; omega)) FA.size; have y0 := (FA.cell (p := ⟨w.heap.size, 0, none⟩) (by first | assumption | (simp; done) | (simp; omega)) id).trans (show _ = some (.int .i64 ah) by first | assumption | (go_keep; done)); have y1 := (FA.cell (p := ⟨w.heap.size, 1, none⟩) (by first | assumption | (simp; done) | (simp; omega)) id).trans (show _ = some (.int .u64 al) by first | assumption | (go_keep; done)); have y2 := (FA.cell (p := ⟨w.heap.size + 1, 0, none⟩) (by first | assumption | (simp; done) | (simp; omega)) id).trans (show _ = some (.int .i64 bh) by first | assumption | (go_keep; done)); have y3 := (FA.cell (p := ⟨w.heap.size + 1, 1, none⟩) (by first | assumption | (simp; done) | (simp; omega)) id).trans (show _ = some (.int .u64 bl) by first | assumption | (go_keep; done)); have hcFA := fun (p : Addr) (hp : p.block < _) => FA.cell (p := p) hp id; have hzFA := fun (p : Addr) (hp : p.block < _) => FA.frozen (p := p) hp id) | (go_at_call 16; with_reducible refine (KB.out _).mono ?_; rintro e wB ⟨rfl, FB⟩; have z1 := Nat.lt_of_lt_of_le (show w.heap.size < _ by first | assumption | (simp; done) | (simp; omega)) FB.size; have z2 := Nat.lt_of_lt_of_le (show w.heap.size + 1 < _ by first | assumption | (simp; done) | (simp; omega)) FB.size; have y0 := (FB.cell (p := ⟨w.heap.size, 0, none⟩) (by first | assumption | (simp; done) | (simp; omega)) id).trans (show _ = some (.int .i64 ah) by first | assumption | (go_keep; done)); have y1 := (FB.cell (p := ⟨w.heap.size, 1, none⟩) (by first | assumption | (simp; done) | (simp; omega)) id).trans (show _ = some (.int .u64 al) by first | assumption | (go_keep; done)); have y2 := (FB.cell (p := ⟨w.heap.size + 1, 0, none⟩) (by first | assumption | (simp; done) | (simp; omega)) id).trans (show _ = some (.int .i64 bh) by first | assumption | (go_keep; done)); have y3 := (FB.cell (p := ⟨w.heap.size + 1, 1, none⟩) (by first | assumption | (simp; done) | (simp; omega)) id).trans (show _ = some (.int .u64 bl) by first | assumption | (go_keep; done)); have hcFB := fun (p : Addr) (hp : p.block < _) => FB.cell (p := p) hp id; have hzFB := fun (p : Addr) (hp : p.block < _) => FB.frozen (p := p) hp id; try (have FAB := FA.trans FB; have hcFAB := fun (p : Addr) (hp : p.block < _) => FAB.cell (p := p) hp id; have hzFAB := fun (p : Addr) (hp : p.block < _) => FAB.frozen (p := p) hp id)) | (go_at_call 22; with_reducible refine (KAB.out _).mono ?_; rintro e wS ⟨rfl, FS⟩; have z1 := Nat.lt_of_lt_of_le (show w.heap.size < _ by first | assumption | (simp; done) | (simp; omega)) FS.size; have z2 := Nat.lt_of_lt_of_le (show w.heap.size + 1 < _ by first | assumption | (simp; done) | (simp; omega)) FS.size; have y0 := (FS.cell (p := ⟨w.heap.size, 0, none⟩) (by first | assumption | (simp; done) | (simp; omega)) id).trans (show _ = some (.int .i64 ah) by first | assumption | (go_keep; done)); have y1 := (FS.cell (p := ⟨w.heap.size, 1, none⟩) (by first | assumption | (simp; done) | (simp; omega)) id).trans (show _ = some (.int .u64 al) by first | assumption | (go_keep; done)); have y2 := (FS.cell (p := ⟨w.heap.size + 1, 0, none⟩) (by first | assumption | (simp; done) | (simp; omega)) id).trans (show _ = some (.int .i64 bh) by first | assumption | (go_keep; done)); have y3 := (FS.cell (p := ⟨w.heap.size + 1, 1, none⟩) (by first | assumption | (simp; done) | (simp; omega)) id).trans (show _ = some (.int .u64 bl) by first | assumption | (go_keep; done)); have hcFS := fun (p : Addr) (hp : p.block < _) => FS.cell (p := p) hp id; have hzFS := fun (p : Addr) (hp : p.block < _) => FS.frozen (p := p) hp id; try (have FBS := FB.trans FS; have hcFBS := fun (p : Addr) (hp : p.block < _) => FBS.cell (p := p) hp id; have hzFBS := fun (p : Addr) (hp : p.block < _) => FBS.frozen (p := p) hp id); try (have FABS := FA.trans FBS; have hcFABS := fun (p : Addr) (hp : p.block < _) => FABS.cell (p := p) hp id; have hzFABS := fun (p : Addr) (hp : p.block < _) => FABS.frozen (p := p) hp id)) | (go_at_call 8; with_reducible refine (KX.out _).mono ?_; rintro e wX ⟨rfl, FX⟩; have z1 := Nat.lt_of_lt_of_le (show w.heap.size < _ by first | assumption | (simp; done) | (simp; omega)) FX.size; have z2 := Nat.lt_of_lt_of_le (show w.heap.size + 1 < _ by first | assumption | (simp; done) | (simp; omega)) FX.size; have y0 := (FX.cell (p := ⟨w.heap.size, 0, none⟩) (by first | assumption | (simp; done) | (simp; omega)) id).trans (show _ = some (.int .i64 ah) by first | assumption | (go_keep; done)); have y1 := (FX.cell (p := ⟨w.heap.size, 1, none⟩) (by first | assumption | (simp; done) | (simp; omega)) id).trans (show _ = some (.int .u64 al) by first | assumption | (go_keep; done)); have y2 := (FX.cell (p := ⟨w.heap.size + 1, 0, none⟩) (by first | assumption | (simp; done) | (simp; omega)) id).trans (show _ = some (.int .i64 bh) by first | assumption | (go_keep; done)); have y3 := (FX.cell (p := ⟨w.heap.size + 1, 1, none⟩) (by first | assumption | (simp; done) | (simp; omega)) id).trans (show _ = some (.int .u64 bl) by first | assumption | (go_keep; done)); have hcFX := fun (p : Addr) (hp : p.block < _) => FX.cell (p := p) hp id; have hzFX := fun (p : Addr) (hp : p.block < _) => FX.frozen (p := p) hp id; try (have FSX := FS.trans FX; have hcFSX := fun (p : Addr) (hp : p.block < _) => FSX.cell (p := p) hp id; have hzFSX := fun (p : Addr) (hp : p.block < _) => FSX.frozen (p := p) hp id); try (have FBSX := FB.trans FSX; have hcFBSX := fun (p : Addr) (hp : p.block < _) => FBSX.cell (p := p) hp id; have hzFBSX := fun (p : Addr) (hp : p.block < _) => FBSX.frozen (p := p) hp id); try (have FABSX := FA.trans FBSX; have hcFABSX := fun (p : Addr) (hp : p.block < _) => FABSX.cell (p := p) hp id; have hzFABSX := fun (p : Addr) (hp : p.block < _) => FABSX.frozen (p := p) hp id)))
    all_goals (go_wp2_with fail; go_meet)
    · exact ⟨_, rfl, rfl, Bk.new _ _ _, (((Fr.refl Nil W3).drew).trans FABSX).alloc _⟩
    · exact ⟨_, rfl, rfl, ((((Bk.new wS 24 #[.int .i64 0, .int .u64 0])).fr FX id).put 0 (.int .i64 sh)).put 1 (.int .u64 sl), Fr.setCell (Fr.setCell (((((Fr.refl Nil W3).drew).trans FABS).alloc _).trans FX) (fun hlt => absurd hlt (by have := FABS.size; simp at this ⊢; omega)) _) (fun hlt => absurd hlt (by have := FABS.size; simp at this ⊢; omega)) _⟩
    · exact ⟨_, rfl, rfl, ((((Bk.new wB 24 #[.int .i64 0, .int .u64 0])).fr FSX id).put 0 (.int .i64 sh)).put 1 (.int .u64 sl), Fr.setCell (Fr.setCell (((((Fr.refl Nil W3).drew).trans FAB).alloc _).trans FSX) (fun hlt => absurd hlt (by have := FAB.size; simp at this ⊢; omega)) _) (fun hlt => absurd hlt (by have := FAB.size; simp at this ⊢; omega)) _⟩
    · exact ⟨_, rfl, rfl, ((((Bk.new wA 24 #[.int .i64 0, .int .u64 0])).fr FBSX id).put 0 (.int .i64 sh)).put 1 (.int .u64 sl), Fr.setCell (Fr.setCell (((((Fr.refl Nil W3).drew).trans FA).alloc _).trans FBSX) (fun hlt => absurd hlt (by have := FA.size; simp at this ⊢; omega)) _) (fun hlt => absurd hlt (by have := FA.size; simp at this ⊢; omega)) _⟩
    · exact ⟨_, rfl, rfl, ((((Bk.new W3.drew 24 #[.int .i64 0, .int .u64 0])).fr FABSX id).put 0 (.int .i64 sh)).put 1 (.int .u64 sl), Fr.setCell (Fr.setCell ((((Fr.refl Nil W3).drew).alloc _).trans FABSX) (fun hlt => absurd hlt (by simp)) _) (fun hlt => absurd hlt (by simp)) _⟩
  case rest =>
    obtain ⟨gx, rfl, rfl, hX, gX⟩ := hcut
    clear a0 a1 b0 b1 l1 l2
    obtain ⟨a0, a1, _, _⟩ := (HA.out.fr gX id).c2
    obtain ⟨b0, b1, _, _⟩ := (HB.out.fr gX id).c2
    have l1 := (HA.out.fr gX id).lt
    have l2 := (HB.out.fr gX id).lt
    have HX := Lib.hid hX
    have GX := Lib.hid gX
    clear hX gX
    generalize wc = W4 at *
    go_upto_region 5 with fail
    go_cut [13, 14] (fun u v wc => Got dh dl db W4 u v wc)
    case first =>
      go_region_held3 (fun w' => w.heap.size < w'.heap.size ∧ w.heap.size + 1 < w'.heap.size ∧ w'.cell? ⟨w.heap.size, 0, none⟩ = some (.int .i64 ah) ∧ w'.cell? ⟨w.heap.size, 1, none⟩ = some (.int .u64 al) ∧ w'.cell? ⟨w.heap.size + 1, 0, none⟩ = some (.int .i64 bh) ∧ w'.cell? ⟨w.heap.size + 1, 1, none⟩ = some (.int .u64 bl)) (first | (with_reducible exact ⟨z1, z2, y0, y1, y2, y3⟩) | (((repeat' apply And.intro) <;> (first | (go_keep; done) | (simp; done) | (simp; omega) | (rw [World.cell?_setCell_far _ _ _ _ (by dsimp only; omega), World.cell?_setCell_far _ _ _ _ (by dsimp only; omega)]; first | assumption | (go_keep; done)))); done))
        (first | (go_at_call 16; with_reducible refine (KA.out _).mono ?_; rintro e wA ⟨rfl, FA⟩; have z1 := Nat.lt_of_lt_of_le (show w.heap.size < _ by first | assumption | (simp; done) | (simp; omega)) FA.size; have z2 := Nat.lt_of_lt_of_le (show w.heap.size + 1 < _ by first | assumption | (simp; done) | (simp; omega)) FA.size; have y0 := (FA.cell (p := ⟨w.heap.size, 0, none⟩) (by first | assumption | (simp; done) | (simp; omega)) id).trans (show _ = some (.int .i64 ah) by first | assumption | (go_keep; done)); have y1 := (FA.cell (p := ⟨w.heap.size, 1, none⟩) (by first | assumption | (simp; done) | (simp; omega)) id).trans (show _ = some (.int .u64 al) by first | assumption | (go_keep; done)); have y2 := (FA.cell (p := ⟨w.heap.size + 1, 0, none⟩) (by first | assumption | (simp; done) | (simp; omega)) id).trans (show _ = some (.int .i64 bh) by first | assumption | (go_keep; done)); have y3 := (FA.cell (p := ⟨w.heap.size + 1, 1, none⟩) (by first | assumption | (simp; done) | (simp; omega)) id).trans (show _ = some (.int .u64 bl) by first | assumption | (go_keep; done)); have hcFA := fun (p : Addr) (hp : p.block < _) => FA.cell (p := p) hp id; have hzFA := fun (p : Addr) (hp : p.block < _) => FA.frozen (p := p) hp id) | (go_at_call 16; with_reducible refine (KB.out _).mono ?_; rintro e wB ⟨rfl, FB⟩; have z1 := Nat.lt_of_lt_of_le (show w.heap.size < _ by first | assumption | (simp; done) | (simp; omega)) FB.size; have z2 := Nat.lt_of_lt_of_le (show w.heap.size + 1 < _ by first | assumption | (simp; done) | (simp; omega)) FB.size; have y0 := (FB.cell (p := ⟨w.heap.size, 0, none⟩) (by first | assumption | (simp; done) | (simp; omega)) id).trans (show _ = some (.int .i64 ah) by first | assumption | (go_keep; done)); have y1 := (FB.cell (p := ⟨w.heap.size, 1, none⟩) (by first | assumption | (simp; done) | (simp; omega)) id).trans (show _ = some (.int .u64 al) by first | assumption | (go_keep; done)); have y2 := (FB.cell (p := ⟨w.heap.size + 1, 0, none⟩) (by first | assumption | (simp; done) | (simp; omega)) id).trans (show _ = some (.int .i64 bh) by first | assumption | (go_keep; done)); have y3 := (FB.cell (p := ⟨w.heap.size + 1, 1, none⟩) (by first | assumption | (simp; done) | (simp; omega)) id).trans (show _ = some (.int .u64 bl) by first | assumption | (go_keep; done)); have hcFB := fun (p : Addr) (hp : p.block < _) => FB.cell (p := p) hp id; have hzFB := fun (p : Addr) (hp : p.block < _) => FB.frozen (p := p) hp id; try (have FAB := FA.trans FB; have hcFAB := fun (p : Addr) (hp : p.block < _) => FAB.cell (p := p) hp id; have hzFAB := fun (p : Addr) (hp : p.block < _) => FAB.frozen (p := p) hp id)) | (go_at_call 23; with_reducible refine (KNB.out _).mono ?_; rintro e wM ⟨rfl, FM⟩; have z1 := Nat.lt_of_lt_of_le (show w.heap.size < _ by first | assumption | (simp; done) | (simp; omega)) FM.size; have z2 := Nat.lt_of_lt_of_le (show w.heap.size + 1 < _ by first | assumption | (simp; done) | (simp; omega)) FM.size; have y0 := (FM.cell (p := ⟨w.heap.size, 0, none⟩) (by first | assumption | (simp; done) | (simp; omega)) id).trans (show _ = some (.int .i64 ah) by first | assumption | (go_keep; done)); have y1 := (FM.cell (p := ⟨w.heap.size, 1, none⟩) (by first | assumption | (simp; done) | (simp; omega)) id).trans (show _ = some (.int .u64 al) by first | assumption | (go_keep; done)); have y2 := (FM.cell (p := ⟨w.heap.size + 1, 0, none⟩) (by first | assumption | (simp; done) | (simp; omega)) id).trans (show _ = some (.int .i64 bh) by first | assumption | (go_keep; done)); have y3 := (FM.cell (p := ⟨w.heap.size + 1, 1, none⟩) (by first | assumption | (simp; done) | (simp; omega)) id).trans (show _ = some (.int .u64 bl) by first | assumption | (go_keep; done)); have hcFM := fun (p : Addr) (hp : p.block < _) => FM.cell (p := p) hp id; have hzFM := fun (p : Addr) (hp : p.block < _) => FM.frozen (p := p) hp id; try (have FBM := FB.trans FM; have hcFBM := fun (p : Addr) (hp : p.block < _) => FBM.cell (p := p) hp id; have hzFBM := fun (p : Addr) (hp : p.block < _) => FBM.frozen (p := p) hp id); try (have FABM := FA.trans FBM; have hcFABM := fun (p : Addr) (hp : p.block < _) => FABM.cell (p := p) hp id; have hzFABM := fun (p : Addr) (hp : p.block < _) => FABM.frozen (p := p) hp id)) | (go_at_call 22; with_reducible refine (KAN.out _).mono ?_; rintro e wS ⟨rfl, FS⟩; have z1 := Nat.lt_of_lt_of_le (show w.heap.size < _ by first | assumption | (simp; done) | (simp; omega)) FS.size; have z2 := Nat.lt_of_lt_of_le (show w.heap.size + 1 < _ by first | assumption | (simp; done) | (simp; omega)) FS.size; have y0 := (FS.cell (p := ⟨w.heap.size, 0, none⟩) (by first | assumption | (simp; done) | (simp; omega)) id).trans (show _ = some (.int .i64 ah) by first | assumption | (go_keep; done)); have y1 := (FS.cell (p := ⟨w.heap.size, 1, none⟩) (by first | assumption | (simp; done) | (simp; omega)) id).trans (show _ = some (.int .u64 al) by first | assumption | (go_keep; done)); have y2 := (FS.cell (p := ⟨w.heap.size + 1, 0, none⟩) (by first | assumption | (simp; done) | (simp; omega)) id).trans (show _ = some (.int .i64 bh) by first | assumption | (go_keep; done)); have y3 := (FS.cell (p := ⟨w.heap.size + 1, 1, none⟩) (by first | assumption | (simp; done) | (simp; omega)) id).trans (show _ = some (.int .u64 bl) by first | assumption | (go_keep; done)); have hcFS := fun (p : Addr) (hp : p.block < _) => FS.cell (p := p) hp id; have hzFS := fun (p : Addr) (hp : p.block < _) => FS.frozen (p := p) hp id; try (have FMS := FM.trans FS; have hcFMS := fun (p : Addr) (hp : p.block < _) => FMS.cell (p := p) hp id; have hzFMS := fun (p : Addr) (hp : p.block < _) => FMS.frozen (p := p) hp id); try (have FBMS := FB.trans FMS; have hcFBMS := fun (p : Addr) (hp : p.block < _) => FBMS.cell (p := p) hp id; have hzFBMS := fun (p : Addr) (hp : p.block < _) => FBMS.frozen (p := p) hp id); try (have FABMS := FA.trans FBMS; have hcFABMS := fun (p : Addr) (hp : p.block < _) => FABMS.cell (p := p) hp id; have hzFABMS := fun (p : Addr) (hp : p.block < _) => FABMS.frozen (p := p) hp id)) | (go_at_call 8; with_reducible refine (KY.out _).mono ?_; rintro e wX ⟨rfl, FX⟩; have z1 := Nat.lt_of_lt_of_le (show w.heap.size < _ by first | assumption | (simp; done) | (simp; omega)) FX.size; have z2 := Nat.lt_of_lt_of_le (show w.heap.size + 1 < _ by first | assumption | (simp; done) | (simp; omega)) FX.size; have y0 := (FX.cell (p := ⟨w.heap.size, 0, none⟩) (by first | assumption | (simp; done) | (simp; omega)) id).trans (show _ = some (.int .i64 ah) by first | assumption | (go_keep; done)); have y1 := (FX.cell (p := ⟨w.heap.size, 1, none⟩) (by first | assumption | (simp; done) | (simp; omega)) id).trans (show _ = some (.int .u64 al) by first | assumption | (go_keep; done)); have y2 := (FX.cell (p := ⟨w.heap.size + 1, 0, none⟩) (by first | assumption | (simp; done) | (simp; omega)) id).trans (show _ = some (.int .i64 bh) by first | assumption | (go_keep; done)); have y3 := (FX.cell (p := ⟨w.heap.size + 1, 1, none⟩) (by first | assumption | (simp; done) | (simp; omega)) id).trans (show _ = some (.int .u64 bl) by first | assumption | (go_keep; done)); have hcFX := fun (p : Addr) (hp : p.block < _) => FX.cell (p := p) hp id; have hzFX := fun (p : Addr) (hp : p.block < _) => FX.frozen (p := p) hp id; try (have FSX := FS.trans FX; have hcFSX := fun (p : Addr) (hp : p.block < _) => FSX.cell (p := p) hp id; have hzFSX := fun (p : Addr) (hp : p.block < _) => FSX.frozen (p := p) hp id); try (have FMSX := FM.trans FSX; have hcFMSX := fun (p : Addr) (hp : p.block < _) => FMSX.cell (p := p) hp id; have hzFMSX := fun (p : Addr) (hp : p.block < _) => FMSX.frozen (p := p) hp id); try (have FBMSX := FB.trans FMSX; have hcFBMSX := fun (p : Addr) (hp : p.block < _) => FBMSX.cell (p := p) hp id; have hzFBMSX := fun (p : Addr) (hp : p.block < _) => FBMSX.frozen (p := p) hp id); try (have FABMSX := FA.trans FBMSX; have hcFABMSX := fun (p : Addr) (hp : p.block < _) => FABMSX.cell (p := p) hp id; have hzFABMSX := fun (p : Addr) (hp : p.block < _) => FABMSX.frozen (p := p) hp id)))
      all_goals (go_wp2_with fail; go_meet)
      · exact ⟨_, rfl, rfl, Bk.new _ _ _, (((Fr.refl Nil W4).drew).trans FABMSX).alloc _⟩
      · exact ⟨_, rfl, rfl, ((((Bk.new wS 24 #[.int .i64 0, .int .u64 0])).fr FX id).put 0 (.int .i64 dh)).put 1 (.int .u64 dl), Fr.setCell (Fr.setCell (((((Fr.refl Nil W4).drew).trans FABMS).alloc _).trans FX) (fun hlt => absurd hlt (by have := FABMS.size; simp at this ⊢; omega)) _) (fun hlt => absurd hlt (by have := FABMS.size; simp at this ⊢; omega)) _⟩
      · exact ⟨_, rfl, rfl, ((((Bk.new wM 24 #[.int .i64 0, .int .u64 0])).fr FSX id).put 0 (.int .i64 dh)).put 1 (.int .u64 dl), Fr.setCell (Fr.setCell (((((Fr.refl Nil W4).drew).trans FABM).alloc _).trans FSX) (fun hlt => absurd hlt (by have := FABM.size; simp at this ⊢; omega)) _) (fun hlt => absurd hlt (by have := FABM.size; simp at this ⊢; omega)) _⟩
      · exact ⟨_, rfl, rfl, ((((Bk.new wB 24 #[.int .i64 0, .int .u64 0])).fr FMSX id).put 0 (.int .i64 dh)).put 1 (.int .u64 dl), Fr.setCell (Fr.setCell (((((Fr.refl Nil W4).drew).trans FAB).alloc _).trans FMSX) (fun hlt => absurd hlt (by have := FAB.size; simp at this ⊢; omega)) _) (fun hlt => absurd hlt (by have := FAB.size; simp at this ⊢; omega)) _⟩
      · exact ⟨_, rfl, rfl, ((((Bk.new wA 24 #[.int .i64 0, .int .u64 0])).fr FBMSX id).put 0 (.int .i64 dh)).put 1 (.int .u64 dl), Fr.setCell (Fr.setCell (((((Fr.refl Nil W4).drew).trans FA).alloc _).trans FBMSX) (fun hlt => absurd hlt (by have := FA.size; simp at this ⊢; omega)) _) (fun hlt => absurd hlt (by have := FA.size; simp at this ⊢; omega)) _⟩
      · exact ⟨_, rfl, rfl, ((((Bk.new W4.drew 24 #[.int .i64 0, .int .u64 0])).fr FABMSX id).put 0 (.int .i64 dh)).put 1 (.int .u64 dl), Fr.setCell (Fr.setCell ((((Fr.refl Nil W4).drew).alloc _).trans FABMSX) (fun hlt => absurd hlt (by simp)) _) (fun hlt => absurd hlt (by simp)) _⟩
    case rest =>
      obtain ⟨gy, rfl, rfl, hY, gY⟩ := hcut
      clear a0 a1 b0 b1 l1 l2
      have hA5 := (HA.out.fr GX.out id).fr gY id
      have hS5 := (HS.out.fr GX.out id).fr gY id
      have hD5 := (HD.out.fr GX.out id).fr gY id
      have hN5 := (HN.out.fr GX.out id).fr gY id
      have hX5 := HX.out.fr gY id
      have g5 := (G3.out.trans GX.out).trans gY
      obtain ⟨a0, a1, _, _⟩ := hA5.c2
      clear gY
      go_wp2_with fail
      refine (KA.out _).mono ?_
      rintro e w6 ⟨rfl, hf6⟩
      go_wp2_with fail
      refine (KNA.out _).mono ?_
      rintro e w7 ⟨rfl, hf7⟩
      go_wp2_with fail
      refine (KZ.out _).mono ?_
      rintro e w8 ⟨rfl, hf8⟩
      have hh := (hf6.trans hf7).trans hf8
      have hS8 := (hS5.fr hh id).alloc (.cells #[.int .i64 zh, .int .u64 zl] 24)
      have hD8 := (hD5.fr hh id).alloc (.cells #[.int .i64 zh, .int .u64 zl] 24)
      have hN8 := (hN5.fr hh id).alloc (.cells #[.int .i64 zh, .int .u64 zl] 24)
      have hX8 := (hX5.fr hh id).alloc (.cells #[.int .i64 zh, .int .u64 zl] 24)
      have hY8 := (hY.fr hh id).alloc (.cells #[.int .i64 zh, .int .u64 zl] 24)
      have hZ8 := Bk.new w8 24 #[.int .i64 zh, .int .u64 zl]
      have g8 := (g5.trans hh).alloc (.cells #[.int .i64 zh, .int .u64 zl] 24)
      clear hf6 hf7 hf8 hh hS5 hD5 hN5 hX5 hY g5 hA5 a0 a1
      obtain ⟨p0, p1, _, _⟩ := hS8.c2
      obtain ⟨p2, p3, _, _⟩ := hD8.c2
      obtain ⟨p4, p5, _, _⟩ := hN8.c2
      obtain ⟨p6, p7, _, _⟩ := hX8.c2
      obtain ⟨p8, p9, _, _⟩ := hY8.c2
      obtain ⟨p10, p11, _, _⟩ := hZ8.c2
      clear hS8 hD8 hN8 hX8 hY8 hZ8
      go_wp2_with fail
      refine (WideS.lives_any _).mono ?_
      rintro e w9 ⟨rfl, hf9⟩
      have g9 := g8.trans hf9
      clear hf9
      go_wp2_with fail
      exact bodyPost_ret (v := .bool true) (by simp [results, Try.results7, go_sem]) rfl ⟨rfl, by (repeat' (with_reducible first | exact g9 | refine Fr.setCell ?_ (fun hlt => absurd hlt (by dsimp only; omega)) _ | refine Fr.alloc ?_ _ | refine Fr.drewN ?_ _ | refine Fr.drew ?_))⟩
end Go.Proofs.Ytaeigighenponaa.WideV
