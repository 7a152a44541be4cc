/- Chapter 5: the walks of doer's methods: one, all. -/
import Derived.Test.YtendhgnhncnabaaFiveC
import Derived.Test.YtendhgnhncnabaaMem
import Derived.Test.YtendhgnhncnabaaTrapEInt
import Derived.Deep.RegionHeld3
import Derived.Deep.RegionWith
import Derived.Deep.OwnRows
namespace Go.Proofs.Ytendhgnhncnabaa.FiveD
open Go.RowKit TrapA TrapB Base FiveA FiveB FiveC
set_option linter.unusedVariables false
set_option linter.unusedSimpArgs false

def Small (s : St) : Prop := 0 ≤ s.many ∧ s.many ≤ 50

theorem one_zero (g : Nat) (t : Value) (done code k wh c a m : Int) (w : World) (h1 : k ≠ 1) (h2 : k ≠ 2) (h3 : k ≠ 3) :
    Calls Try.prog 21 #[.pointer (some ⟨g, 0, none⟩), .agg #[.int .i64 k, .int .i64 wh, .int .i64 c, .int .i64 a, .int .i64 m]] w fun e w' => e = .returned (.tuple #[]) ∧ Fr Nil w w' := by
  go_enter Try.func21, Try.ntmps21
  go_wp2
  go_end0
  exact ⟨rfl, (Fr.refl _ _).alloc _⟩

theorem one_throw0 (g : Nat) (wh a m : Int) (w : World) :
    Calls Try.prog 21 #[.pointer (some ⟨g, 0, none⟩), .agg #[.int .i64 1, .int .i64 wh, .int .i64 0, .int .i64 a, .int .i64 m]] w fun e w' => e = .returned (.tuple #[]) ∧ Fr Nil w w' := by
  go_enter Try.func21, Try.ntmps21
  go_wp2_with (go_at_call 29; refine (Throw_ok _ _).mono ?_; rintro e w1 ⟨rfl, rfl⟩)
  go_end0
  exact ⟨rfl, (Fr.refl _ _).alloc _⟩

theorem one_throw (g : Nat) (wh c a m : Int) (hc : (c != 0) = true) (w : World) :
    Calls Try.prog 21 #[.pointer (some ⟨g, 0, none⟩), .agg #[.int .i64 1, .int .i64 wh, .int .i64 c, .int .i64 a, .int .i64 m]] w fun e w' => e = .panicked [fault wh c] ∧ Fr Nil w w' := by
  go_enter Try.func21, Try.ntmps21
  go_wp2_with (go_at_call 29; refine (Throw_bad _ _ hc _).mono ?_; rintro e w1 ⟨rfl, rfl⟩)
  exact ⟨rfl, rfl, (Fr.refl _ _).alloc _⟩

theorem one_arg (g : Nat) (wh c a m : Int) (w : World) :
    Calls Try.prog 21 #[.pointer (some ⟨g, 0, none⟩), .agg #[.int .i64 2, .int .i64 wh, .int .i64 c, .int .i64 a, .int .i64 m]] w fun e w' => e = .panicked [fault 0 1] ∧ Fr Nil w w' := by
  go_enter Try.func21, Try.ntmps21
  go_wp2_with (go_at_call 29; refine (Throw_bad _ _ rfl _).mono ?_; rintro e w1 ⟨rfl, rfl⟩)
  exact ⟨rfl, rfl, (Fr.refl _ _).alloc _⟩

theorem Try.info_int : (Try.prog.info? 3).map (fun i => (i.zero, i.size, i.bytes)) = some (some (.int .i64 0), 1, 8) := by kernel_rfl

theorem zero_cell {w : World} {n : Nat} (k : Nat) (A : Array Value) (t u : TypeId) (hk : k < n) : (((w.alloc (.cells A t)).alloc (.cells (madeCells #[.int .i64 0] n) u)).drew).cell? ((⟨w.heap.size + 1, 0, none⟩ : Addr).add ((k : Int).toNat)) = some (.int .i64 0) := by
  rw [Int.toNat_natCast]
  have h := cells_new (w.alloc (.cells A t)) u (List.replicate n (.int .i64 0)) (w.heap.size + 1) (by simp) k (.int .i64 0) (by simp [hk])
  have e : (List.replicate n (Value.int .i64 0)).toArray = madeCells #[.int .i64 0] n := by
    rw [← toList_madeCells_one]
  rw [e] at h
  exact h

theorem held_after {w : World} {g t5 : Nat} {ty : TypeId} {t v u y z1 z2 z3 x3 x4 : Value} (hb : Bk w g ty #[t, u, y]) (O : Obj) :
    ((((w.setCell ⟨g, 1, none⟩ v).alloc (.cells #[z1, z2, z3, x3, x4] t5)).alloc O).drew).cell? ⟨g, 1, none⟩ = some v ∧ ((((w.setCell ⟨g, 1, none⟩ v).alloc (.cells #[z1, z2, z3, x3, x4] t5)).alloc O).drew).cell? ⟨w.heap.size, 3, none⟩ = some x3 ∧
      ((((w.setCell ⟨g, 1, none⟩ v).alloc (.cells #[z1, z2, z3, x3, x4] t5)).alloc O).drew).cell? ⟨w.heap.size, 4, none⟩ = some x4 := by
  have h1 := (((hb.put 1 v).alloc (.cells #[z1, z2, z3, x3, x4] t5)).alloc O).drew.cell 1
  have h2 := ((Bk.new (w.setCell ⟨g, 1, none⟩ v) t5 #[z1, z2, z3, x3, x4]).alloc O).drew
  have hs : (w.setCell ⟨g, 1, none⟩ v).heap.size = w.heap.size := by simp [World.setCell]
  rw [hs] at h2
  exact ⟨h1, h2.cell 3, h2.cell 4⟩

set_option maxHeartbeats 400000 in
theorem one_index (g n : Nat) (t : Value) (done code wh c a : Int) (w : World) (hb : Bk w g 27 #[t, .int .i64 done, .int .i64 code]) (hn : n ≤ 50) (h0 : 0 ≤ a) (ha : a < n) (hd0 : 0 ≤ done) (hd : done < 1000000) :
    Calls Try.prog 21 #[.pointer (some ⟨g, 0, none⟩), .agg #[.int .i64 3, .int .i64 wh, .int .i64 c, .int .i64 a, .int .i64 n]] w fun e w' => e = .returned (.tuple #[]) ∧ Fr (· = g) w w' ∧ Bk w' g 27 #[t, .int .i64 done, .int .i64 code] := by
  obtain ⟨i0, hi, hz0, hz1, hz2⟩ := info_parts Try.info_int
  have hmk := run_make_row' (P := Try.prog) 36 3 (.int .i64 0) 8 Try.underlying36 Try.info_int rfl .i64 .i64 n (by omega) (by omega)
  obtain ⟨c0, c1, c2, f0, f1, f2⟩ := hb.c3
  have hlt := hb.lt
  obtain ⟨k, rfl⟩ := Int.eq_ofNat_of_zero_le h0
  have hwr : IntKind.i64.wrap done = done := IntWalk.i64_in _ (by omega)
  have hne : ¬ g = w.heap.size := by omega
  have hne' : ¬ w.heap.size = g := by omega
  go_enter Try.func21, Try.ntmps21
  go_wp2_with fail
  go_region_held3 (fun w' => w'.cell? ⟨g, 1, none⟩ = some (.int .i64 done) ∧ w'.cell? ⟨w.heap.size, 3, none⟩ = some (.int .i64 k) ∧ w'.cell? ⟨w.heap.size, 4, none⟩ = some (.int .i64 n)) (first | (go_keep; done) | exact held_after hb _)
    (first | (go_at_call 24; refine (TrapEInt.Index_ok _ _ _ _ 0 _ (by omega) (by omega) (by omega) ?_).mono ?_; exact zero_cell k _ _ _ (by omega); rintro e w' ⟨rfl, rfl⟩))
  go_wp2
  go_end0
  exact ⟨rfl, ((((Fr.refl (· = g) w).setCell (p := ⟨g, 1, none⟩) (fun _ => rfl) _).alloc _).alloc _).drew, (((hb.put 1 (.int .i64 done)).alloc _).alloc _).drew⟩

set_option maxHeartbeats 4000000 in
theorem one_out (g n : Nat) (t : Value) (done code wh c a : Int) (w : World) (hb : Bk w g 27 #[t, .int .i64 done, .int .i64 code]) (hn : n ≤ 50) (ha : a < 0 ∨ n ≤ a) :
    Calls Try.prog 21 #[.pointer (some ⟨g, 0, none⟩), .agg #[.int .i64 3, .int .i64 wh, .int .i64 c, .int .i64 a, .int .i64 n]] w fun e w' => e = .panicked [fault 0 1] ∧ Fr Nil w w' := by
  obtain ⟨i0, hi, hz0, hz1, hz2⟩ := info_parts Try.info_int
  have hmk := run_make_row' (P := Try.prog) 36 3 (.int .i64 0) 8 Try.underlying36 Try.info_int rfl .i64 .i64 n (by omega) (by omega)
  obtain ⟨c0, c1, c2, f0, f1, f2⟩ := hb.c3
  have hlt := hb.lt
  have hne : ¬ g = w.heap.size := by omega
  have hne' : ¬ w.heap.size = g := by omega
  have HA := Lib.hid ha
  clear ha
  go_enter Try.func21, Try.ntmps21
  go_wp2_with fail
  go_region_with (first | (go_at_call 24; refine (orFalse (.int .i64 0) (TrapEInt.Index_bad _ _ _ _ _ HA.out (by omega))).mono ?_; rintro e w' (⟨rfl, rfl⟩ | ⟨hF, rfl, rfl⟩); exact ⟨rfl, rfl, (((Fr.refl _ w).alloc _).alloc _).drew⟩))
  all_goals exact hF.out.elim

theorem one_ok (s : St) (g : Nat) (t : Value) (done code : Int) (w : World) (hb : Bk w g 27 #[t, .int .i64 done, .int .i64 code]) (hs : Small s) (hd0 : 0 ≤ done) (hd : done < 1000000) (ht : thrown s = none) :
    Calls Try.prog 21 #[.pointer (some ⟨g, 0, none⟩), St.agg s] w fun e w' => e = .returned (.tuple #[]) ∧ Fr (· = g) w w' ∧ Bk w' g 27 #[t, .int .i64 done, .int .i64 code] := by
  obtain ⟨k, wh, c, a, m⟩ := s
  obtain ⟨m0, m1⟩ := hs
  simp only at m0 m1
  unfold thrown at ht
  simp only at ht
  unfold St.agg
  simp only
  by_cases h1 : k = 1
  · subst h1
    by_cases hc : c = 0
    · subst hc
      exact (one_throw0 g wh a m w).mono fun e w' ⟨he, hf⟩ => ⟨he, hf.of_nil, hb.fr hf id⟩
    · simp [hc] at ht
  · by_cases h2 : k = 2
    · simp [h1, h2] at ht
    · by_cases h3 : k = 3
      · subst h3
        by_cases h4 : a < 0 ∨ m ≤ a
        · simp [h4] at ht
        · obtain ⟨n, rfl⟩ := Int.eq_ofNat_of_zero_le m0
          exact one_index g n t done code wh c a w hb (by omega) (by omega) (by omega) hd0 hd
      · exact (one_zero g t done code k wh c a m w h1 h2 h3).mono fun e w' ⟨he, hf⟩ => ⟨he, hf.of_nil, hb.fr hf id⟩

theorem one_bad (s : St) (g : Nat) (t : Value) (done code x y : Int) (w : World) (hb : Bk w g 27 #[t, .int .i64 done, .int .i64 code]) (hs : Small s) (ht : thrown s = some (x, y)) :
    Calls Try.prog 21 #[.pointer (some ⟨g, 0, none⟩), St.agg s] w fun e w' => e = .panicked [fault x y] ∧ Fr Nil w w' := by
  obtain ⟨k, wh, c, a, m⟩ := s
  obtain ⟨m0, m1⟩ := hs
  simp only at m0 m1
  unfold thrown at ht
  simp only at ht
  unfold St.agg
  simp only
  by_cases h1 : k = 1
  · subst h1
    by_cases hc : c = 0
    · simp [hc] at ht
    · simp [hc] at ht
      obtain ⟨rfl, rfl⟩ := ht
      exact one_throw g wh c a m (by simpa using hc) w
  · by_cases h2 : k = 2
    · subst h2
      simp at ht
      obtain ⟨rfl, rfl⟩ := ht
      exact one_arg g wh c a m w
    · by_cases h3 : k = 3
      · subst h3
        by_cases h4 : a < 0 ∨ m ≤ a
        · simp [h4] at ht
          obtain ⟨rfl, rfl⟩ := ht
          obtain ⟨n, rfl⟩ := Int.eq_ofNat_of_zero_le m0
          exact one_out g n t done code wh c a w hb (by omega) (by omega)
        · simp [h4] at ht
      · simp [h1, h2, h3] at ht
end Go.Proofs.Ytendhgnhncnabaa.FiveD
