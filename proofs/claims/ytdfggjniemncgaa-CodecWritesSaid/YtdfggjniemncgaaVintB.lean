/- Numbers as bytes: the walks of folded, put, Clone of bytes, Int. -/
import Derived.Test.YtdfggjniemncgaaVintA
import Derived.Test.YtdfggjniemncgaaSlices
import Derived.Test.YtdfggjniemncgaaQuiet
import Derived.Test.YtdfggjniemncgaaChecked
import Derived.Laws.BitsAllLaws
import Derived.Lib.Zigzag
namespace Go.Proofs.Ytdfggjniemncgaa.VintB
open Go.RowKit Base Slices VintA
set_option linter.unusedVariables false
set_option linter.unusedSimpArgs false

theorem Try.info_byte : (Try.prog.info? 5).map (fun i => (i.zero, i.size, i.bytes)) = some (some (.int .u8 0), 1, 1) := by kernel_rfl
/-- bytes, as elements -/
def EB : El Int := { ty := 5, sl := 22, size := 1, bytes := 1, cells := fun n => [.int .u8 n] }
theorem EB_ok : EB.Ok Try.prog := by
  obtain ⟨i0, hi, hz0, hz1, hz2⟩ := info_parts Try.info_byte
  exact ⟨Try.underlying22, ⟨i0, _, hi, hz0, hz1, hz2, rfl⟩, by decide, by decide, fun _ => rfl, fun a u hu => by simp [EB] at hu; subst hu; rfl⟩

theorem one_b {w : World} {g : Nat} (n : Int) (hg : g = w.heap.size) : Come EB (w.alloc (.cells #[.int .u8 n] 5)) (.slice (some ⟨g, 0, none⟩) 1 1) [n] := (lit_sl EB_ok [n] rfl hg _).come

/-- a row grew: only its own block turned, and it lies there or in a new one -/
def Ext (w : World) (v : Value) (w' : World) (u : Value) : Prop := Fr (Of v) w w' ∧ ∀ g, u.ownBlock = some g → v.ownBlock = some g ∨ w.heap.size ≤ g
theorem Ext.refl (w : World) (v : Value) : Ext w v w v := ⟨Fr.refl _ _, fun _ h => Or.inl h⟩
theorem Ext.trans {w w1 w2 : World} {v u x : Value} (h : Ext w v w1 u) (k : Ext w1 u w2 x) : Ext w v w2 x := by
  refine ⟨h.1.then k.1 fun i hi hlt => ?_, fun g hg => ?_⟩
  · rcases h.2 i hi with h1 | h1
    · exact h1
    · omega
  · rcases k.2 g hg with h1 | h1
    · exact h.2 g h1
    · exact Or.inr (Nat.le_trans h.1.size h1)
theorem Ext.nil {w w1 w2 : World} {v u : Value} (h : Ext w v w1 u) (k : Fr Nil w1 w2) : Ext w v w2 u := ⟨h.1.trans k.of_nil, h.2⟩
theorem Ext.since {w w1 w2 : World} {v u : Value} (h : Fr Nil w w1) (k : Ext w1 v w2 u) : Ext w v w2 u := ⟨h.of_nil.trans k.1, fun g hg => (k.2 g hg).imp id fun e => Nat.le_trans h.size e⟩
/-- grown from a row that is new -/
theorem Ext.fresh {w w1 w2 : World} {v u : Value} (h : Fr Nil w w1) (hv : ∀ g, v.ownBlock = some g → w.heap.size ≤ g) (k : Ext w1 v w2 u) : Fr Nil w w2 := h.then k.1 fun i hi hlt => absurd (hv i hi) (by omega)

theorem fold_zig (n : Int) : fold n = Lib.zigzag n := by
  unfold fold Lib.zigzag
  split <;> omega

theorem wrap64u (n : Int) : IntKind.u64.wrap n = n % 18446744073709551616 := by simp [IntKind.wrap, IntKind.bits, IntKind.signed]
theorem fold_bits (n : Int) (h0 : -9223372036854775808 ≤ n) (h1 : n ≤ 9223372036854775807) :
    bits .xor .u64 (IntKind.u64.wrap (IntKind.u64.wrap n * 2)) (IntKind.u64.wrap (n / 9223372036854775808)) = ((fold n : Nat) : Int) := by
  by_cases h : 0 ≤ n
  · have e1 : IntKind.u64.wrap (IntKind.u64.wrap n * 2) = (((2 * n).toNat : Nat) : Int) := by
      rw [wrap64u, wrap64u]; omega
    have e2 : IntKind.u64.wrap (n / 9223372036854775808) = ((0 : Nat) : Int) := by
      rw [wrap64u]; omega
    rw [e1, e2, bits_xor_u64_nat _ _ (by omega) (by decide), Nat.xor_zero]
    unfold fold
    rw [if_pos h]
    omega
  · have e1 : IntKind.u64.wrap (IntKind.u64.wrap n * 2) = (((2 * n + 18446744073709551616).toNat : Nat) : Int) := by
      rw [wrap64u, wrap64u]; omega
    have e2 : IntKind.u64.wrap (n / 9223372036854775808) = ((2 ^ 64 - 1 : Nat) : Int) := by
      rw [wrap64u]; omega
    rw [e1, e2, bits_xor_u64_nat _ _ (by omega) (by decide), Nat.xor_comm, Lib.xor_ones64 _ (by omega)]
    unfold fold
    rw [if_neg h]
    omega

theorem folded_any (n : Int) (w : World) (h0 : -9223372036854775808 ≤ n) (h1 : n ≤ 9223372036854775807) :
    Calls Try.prog 34 #[.int .i64 n] w fun e w' => e = .returned (.int .u64 (fold n : Nat)) ∧ Fr Nil w w' := by
  have HX := Lib.hid (fold_bits n h0 h1)
  go_enter Try.func34, Try.ntmps34
  go_wp2_with fail
  go_ret
  exact ⟨congrArg (fun x => Ending.returned (.int .u64 x)) HX.out, Fr.refl _ _⟩

theorem u8_of (k : Nat) : (k : Int) % 256 = ((k % 256 : Nat) : Int) := by omega
theorem more_of (k : Nat) : bits .or .u8 ((k : Int) % 256) 128 = ((k % 128 + 128 : Nat) : Int) := by
  rw [u8_of, Lib.u8_or128_any _ (by omega) (by omega)]
  omega

set_option maxHeartbeats 4000000 in
theorem put_any (w0 : Nat) (l : List Int) (n : Int) (v : Value) (w : World) (hn0 : -9223372036854775808 ≤ n) (hn1 : n ≤ 9223372036854775807) (hl : l.length ≤ 100000) (hv : Own EB w w0 v l) (hw : w0 ≤ w.heap.size) :
    Calls Try.prog 23 #[v, .int .i64 n] w fun e w' => ∃ u, e = .returned u ∧ Ext w v w' u ∧ Own EB w' w0 u (l ++ vint (fold n)) := by
  have KF := Lib.hid (folded_any n w hn0 hn1)
  have hz := fold_lt hn0 hn1
  generalize fold n = z0 at *
  have hlen := vint_len10 hz
  clear hn0 hn1
  obtain ⟨A, c, rfl⟩ := (hv.sl EB_ok).shape
  have HV := Lib.hid hv
  clear hv
  go_enter Try.func23, Try.ntmps23
  go_wp2_with fail
  refine KF.out.mono ?_
  rintro e w1 ⟨rfl, hf1⟩
  have hfr1 := Lib.hid hf1
  have HV1 := Lib.hid (HV.out.fr hf1 (fun _ _ h => h))
  have hw1 := Lib.hid (Nat.le_trans hw hf1.size)
  clear hf1 HV KF hw
  go_wp2_with fail
  go_loopw [0, 5] (fun v0 z wr => ∃ (k : Nat) (pre : List Int), z = .int .u64 k ∧ k ≤ z0 ∧ pre ++ vint k = vint z0 ∧ Own EB wr w0 v0 (l ++ pre) ∧ Ext w1 (.slice A l.length c) wr v0) (fun _ z _ => (intOf z).toNat)
  case atStart => exact ⟨z0, [], rfl, Nat.le_refl _, rfl, by rw [List.append_nil]; exact HV1.out, Ext.refl _ _⟩
  case round =>
    obtain ⟨k, pre, rfl, hk, hp, ho, hx⟩ := hrel
    have hpl : (l ++ pre).length + 1 ≤ 1000000 := by
      have := congrArg List.length hp
      rw [List.length_append] at this
      rw [List.length_append]
      omega
    obtain ⟨L, hL⟩ : ∃ L, L = l ++ pre := ⟨_, rfl⟩
    rw [← hL] at ho hpl
    have HL := Lib.hid hpl
    have HO := Lib.hid ho
    have HE := Lib.hid hL
    have HX := Lib.hid hx
    have HP := Lib.hid hp
    have HW := Lib.hid (Nat.le_trans hw1.out hx.1.size)
    obtain ⟨A0, c0, rfl⟩ := (ho.sl EB_ok).shape
    clear ho hx hp hpl hL
    by_cases h128 : k < 128
    · have hlo : ¬ (128 : Int) ≤ k := by omega
      have HV := Lib.hid (show vint z0 = pre ++ [(k : Int)] by rw [← HP.out, vint_low h128])
      clear h128
      go_wp2_with (at_builtin; refine wpList_app EB_ok rfl (.tmp 18) (.tmp 21) 22 rfl rfl w0 _ _ L [_] rfl (HO.out.alloc _) rfl (one_b _ rfl) HL.out (Nat.le_trans HW.out (by simp)) ?_; intro v2 w2 o1 o2 o3 o4)
      go_ret
      refine ⟨_, rfl, Ext.since hfr1.out (HX.out.trans (Ext.since ((Fr.refl _ _).alloc _) ⟨o2, o3⟩)), ?_⟩
      rw [HV.out, ← List.append_assoc, ← HE.out]
      exact o1
    · have hhi : (128 : Int) ≤ k := by omega
      have HV := Lib.hid (show (pre ++ [((k % 128 + 128 : Nat) : Int)]) ++ vint (k / 128) = vint z0 by rw [← HP.out, vint_high h128]; simp)
      have HB := Lib.hid (more_of k)
      have hk2 : k / 128 ≤ z0 := Nat.le_trans (Nat.div_le_self _ _) hk
      clear h128
      go_wp2_with (at_builtin; refine wpList_app EB_ok rfl (.tmp 12) (.tmp 16) 22 rfl rfl w0 _ _ L [_] rfl (HO.out.alloc _) rfl (one_b _ rfl) HL.out (Nat.le_trans HW.out (by simp)) ?_; intro v2 w2 o1 o2 o3 o4)
      go_roundw
      case rel => exact ⟨k / 128, pre ++ [((k % 128 + 128 : Nat) : Int)], by go_num, hk2, HV.out, by rw [← List.append_assoc, ← HB.out, ← HE.out]; exact o1, HX.out.trans (Ext.since ((Fr.refl _ _).alloc _) ⟨o2, o3⟩)⟩
      case measure => simp [intOf]; omega

theorem clone_any (l : List Int) (v : Value) (w : World) (hl : l.length ≤ 100000) (hv : Come EB w v l) :
    Calls Try.prog 24 #[v] w fun e w' => ∃ u, e = .returned u ∧ Fr Nil w w' ∧ Own EB w' w.heap.size u l := by
  rcases hv with ⟨rfl, rfl⟩ | ⟨a, cap, rfl, hc, hr⟩
  · have hnil : ∀ W, (binOp .eql 22 (.slice none 0 0) (.slice none 0 0)).run Try.prog W = .ok (.bool true) W := fun W => by kernel_rfl
    go_enter Try.func24, Try.ntmps24
    go_wp2
    go_ret
    exact ⟨_, rfl, Fr.refl _ _, Own.nil _ _⟩
  · have HV := Lib.hid (show Come EB w (.slice (some a) l.length cap) l from Or.inr ⟨a, cap, rfl, hc, hr⟩)
    have O1 := Lib.hid (show Own EB (w.alloc (.cells #[] 5)) w.heap.size (.slice (some ⟨w.heap.size, 0, none⟩) 0 0) [] from Own.made (Nat.le_refl _) rfl)
    have hnil : ∀ W, (binOp .eql 22 (.slice (some a) l.length cap) (.slice none 0 0)).run Try.prog W = .ok (.bool false) W := fun W => by kernel_rfl
    clear hr
    go_enter Try.func24, Try.ntmps24
    go_wp2_with (at_builtin; refine wpList_app EB_ok rfl (.tmp 5) (.tmp 6) 22 rfl rfl w.heap.size _ _ [] l rfl O1.out rfl (HV.out.fr ((Fr.refl Nil w).alloc _)) (by simp; omega) (by simp) ?_; intro v' w1 h1 h2 h3 h4)
    go_ret
    exact ⟨v', rfl, Fr.then ((Fr.refl Nil w).alloc _) h2 (fun i hi hlt => absurd (O1.out.lt i hi).1 (by omega)), h1⟩

/-- bytes, and a number's behind, in memory of its own -/
theorem Int_any (l : List Int) (n : Int) (v : Value) (w : World) (hn0 : -9223372036854775808 ≤ n) (hn1 : n ≤ 9223372036854775807) (hl : l.length ≤ 100000) (hv : Come EB w v l) :
    Calls Try.prog 12 #[v, .int .i64 n] w fun e w' => ∃ u, e = .returned u ∧ Fr Nil w w' ∧ Own EB w' w.heap.size u (l ++ vint (fold n)) := by
  have K1 := Lib.hid (clone_any l v w hl hv)
  have K2 := Lib.hid (fun W u h (hw : w.heap.size ≤ W.heap.size) => put_any w.heap.size l n u W hn0 hn1 hl h hw)
  clear hv
  go_enter Try.func12, Try.ntmps12
  go_wp2_with fail
  refine K1.out.mono ?_
  rintro e w1 ⟨u, rfl, hf1, ho1⟩
  have HF := Lib.hid hf1
  have HO := Lib.hid ho1
  clear hf1 ho1
  go_wp2_with fail
  refine (K2.out _ _ HO.out HF.out.size).mono ?_
  rintro e w2 ⟨u2, rfl, hx, ho2⟩
  have HX := Lib.hid hx
  have HO2 := Lib.hid ho2
  clear hx ho2
  go_wp2_with fail
  go_ret
  exact ⟨_, rfl, Ext.fresh HF.out (fun g hg => (HO.out.lt g hg).1) HX.out, HO2.out⟩

set_option maxHeartbeats 4000000 in
theorem ref_loop (w0 : Nat) (l : List Int) (n : Int) (v : Value) (w : World) (hn0 : -9223372036854775808 ≤ n) (hn1 : n ≤ 9223372036854775807) (hl : l.length ≤ 100000) (hv : Own EB w w0 v l) (hw : w0 ≤ w.heap.size) :
    Calls Try.prog 13 #[v, .int .i64 n] w fun e w' => ∃ u, e = .returned u ∧ Ext w v w' u ∧ Own EB w' w0 u (l ++ vint (fold n)) := by
  have hz := fold_lt hn0 hn1
  have hlen := vint_len10 hz
  have HFold := Lib.hid (show fold n = if 0 ≤ n then 2 * n.toNat else 2 * (-(n + 1)).toNat + 1 from rfl)
  generalize fold n = z0 at *
  obtain ⟨A, c, rfl⟩ := (hv.sl EB_ok).shape
  have HV1 := Lib.hid hv
  have hw1 := Lib.hid hw
  clear hv hw
  by_cases hn : 0 ≤ n
  · have HZ := Lib.hid (show ((z0 : Nat) : Int) = 2 * n by have := HFold.out; rw [if_pos hn] at this; omega)
    clear HFold
    go_enter Try.func13, Try.ntmps13
    go_wp2_with fail
    go_loopw [0, 5] (fun v0 z wr => ∃ (k : Nat) (pre : List Int), z = .int .u64 k ∧ k ≤ z0 ∧ pre ++ vint k = vint z0 ∧ Own EB wr w0 v0 (l ++ pre) ∧ Ext w (.slice A l.length c) wr v0) (fun _ z _ => (intOf z).toNat)
    case atStart => exact ⟨z0, [], congrArg (Value.int .u64) (by first | exact HZ.out.symm | (have := HZ.out; omega)), Nat.le_refl _, rfl, by rw [List.append_nil]; exact HV1.out, Ext.refl _ _⟩
    case round =>
      obtain ⟨k, pre, rfl, hk, hp, ho, hx⟩ := hrel
      have hpl : (l ++ pre).length + 1 ≤ 1000000 := by
        have := congrArg List.length hp
        rw [List.length_append] at this
        rw [List.length_append]
        omega
      obtain ⟨L, hL⟩ : ∃ L, L = l ++ pre := ⟨_, rfl⟩
      rw [← hL] at ho hpl
      have HL := Lib.hid hpl
      have HO := Lib.hid ho
      have HE := Lib.hid hL
      have HX := Lib.hid hx
      have HP := Lib.hid hp
      have HW := Lib.hid (Nat.le_trans hw1.out hx.1.size)
      obtain ⟨A0, c0, rfl⟩ := (ho.sl EB_ok).shape
      clear ho hx hp hpl hL
      by_cases h128 : k < 128
      · have hlo : ¬ (127 : Int) < k := by omega
        have HV := Lib.hid (show vint z0 = pre ++ [(k : Int)] by rw [← HP.out, vint_low h128])
        clear h128
        go_wp2_with (at_builtin; refine wpList_app EB_ok rfl (.tmp 28) (.tmp 31) 22 rfl rfl w0 _ _ L [_] rfl (HO.out.alloc _) rfl (one_b _ rfl) HL.out (Nat.le_trans HW.out (by simp)) ?_; intro v2 w2 o1 o2 o3 o4)
        go_ret
        refine ⟨_, rfl, HX.out.trans (Ext.since ((Fr.refl _ _).alloc _) ⟨o2, o3⟩), ?_⟩
        rw [HV.out, ← List.append_assoc, ← HE.out]
        exact o1
      · have hhi : (127 : Int) < k := by omega
        have HV := Lib.hid (show (pre ++ [((k % 128 + 128 : Nat) : Int)]) ++ vint (k / 128) = vint z0 by rw [← HP.out, vint_high h128]; simp)
        have HB := Lib.hid (show 128 + (k : Int) % 128 = ((k % 128 + 128 : Nat) : Int) by omega)
        have hk2 : k / 128 ≤ z0 := Nat.le_trans (Nat.div_le_self _ _) hk
        clear h128
        go_wp2_with (at_builtin; refine wpList_app EB_ok rfl (.tmp 19) (.tmp 24) 22 rfl rfl w0 _ _ L [_] rfl (HO.out.alloc _) rfl (one_b _ rfl) HL.out (Nat.le_trans HW.out (by simp)) ?_; intro v2 w2 o1 o2 o3 o4)
        go_roundw
        case rel => exact ⟨k / 128, pre ++ [((k % 128 + 128 : Nat) : Int)], by go_num, hk2, HV.out, by rw [← List.append_assoc, ← HB.out, ← HE.out]; exact o1, HX.out.trans (Ext.since ((Fr.refl _ _).alloc _) ⟨o2, o3⟩)⟩
        case measure => simp [intOf]; omega
  · have HZ := Lib.hid (show ((z0 : Nat) : Int) = 2 * (-(n + 1)) + 1 by have := HFold.out; rw [if_neg hn] at this; omega)
    clear HFold
    have hn : n < 0 := by omega
    go_enter Try.func13, Try.ntmps13
    go_wp2_with fail
    go_loopw [0, 5] (fun v0 z wr => ∃ (k : Nat) (pre : List Int), z = .int .u64 k ∧ k ≤ z0 ∧ pre ++ vint k = vint z0 ∧ Own EB wr w0 v0 (l ++ pre) ∧ Ext w (.slice A l.length c) wr v0) (fun _ z _ => (intOf z).toNat)
    case atStart => exact ⟨z0, [], congrArg (Value.int .u64) (by first | exact HZ.out.symm | (have := HZ.out; omega)), Nat.le_refl _, rfl, by rw [List.append_nil]; exact HV1.out, Ext.refl _ _⟩
    case round =>
      obtain ⟨k, pre, rfl, hk, hp, ho, hx⟩ := hrel
      have hpl : (l ++ pre).length + 1 ≤ 1000000 := by
        have := congrArg List.length hp
        rw [List.length_append] at this
        rw [List.length_append]
        omega
      obtain ⟨L, hL⟩ : ∃ L, L = l ++ pre := ⟨_, rfl⟩
      rw [← hL] at ho hpl
      have HL := Lib.hid hpl
      have HO := Lib.hid ho
      have HE := Lib.hid hL
      have HX := Lib.hid hx
      have HP := Lib.hid hp
      have HW := Lib.hid (Nat.le_trans hw1.out hx.1.size)
      obtain ⟨A0, c0, rfl⟩ := (ho.sl EB_ok).shape
      clear ho hx hp hpl hL
      by_cases h128 : k < 128
      · have hlo : ¬ (127 : Int) < k := by omega
        have HV := Lib.hid (show vint z0 = pre ++ [(k : Int)] by rw [← HP.out, vint_low h128])
        clear h128
        go_wp2_with (at_builtin; refine wpList_app EB_ok rfl (.tmp 28) (.tmp 31) 22 rfl rfl w0 _ _ L [_] rfl (HO.out.alloc _) rfl (one_b _ rfl) HL.out (Nat.le_trans HW.out (by simp)) ?_; intro v2 w2 o1 o2 o3 o4)
        go_ret
        refine ⟨_, rfl, HX.out.trans (Ext.since ((Fr.refl _ _).alloc _) ⟨o2, o3⟩), ?_⟩
        rw [HV.out, ← List.append_assoc, ← HE.out]
        exact o1
      · have hhi : (127 : Int) < k := by omega
        have HV := Lib.hid (show (pre ++ [((k % 128 + 128 : Nat) : Int)]) ++ vint (k / 128) = vint z0 by rw [← HP.out, vint_high h128]; simp)
        have HB := Lib.hid (show 128 + (k : Int) % 128 = ((k % 128 + 128 : Nat) : Int) by omega)
        have hk2 : k / 128 ≤ z0 := Nat.le_trans (Nat.div_le_self _ _) hk
        clear h128
        go_wp2_with (at_builtin; refine wpList_app EB_ok rfl (.tmp 19) (.tmp 24) 22 rfl rfl w0 _ _ L [_] rfl (HO.out.alloc _) rfl (one_b _ rfl) HL.out (Nat.le_trans HW.out (by simp)) ?_; intro v2 w2 o1 o2 o3 o4)
        go_roundw
        case rel => exact ⟨k / 128, pre ++ [((k % 128 + 128 : Nat) : Int)], by go_num, hk2, HV.out, by rw [← List.append_assoc, ← HB.out, ← HE.out]; exact o1, HX.out.trans (Ext.since ((Fr.refl _ _).alloc _) ⟨o2, o3⟩)⟩
        case measure => simp [intOf]; omega
end Go.Proofs.Ytdfggjniemncgaa.VintB
