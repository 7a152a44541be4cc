/- Chapter 32: the walk of the law SessionBudget. -/
import Derived.Test.YteceghhjpejdnaaSessI
import Derived.BigQuiet
namespace Go.Proofs.Yteceghhjpejdnaa.SessK
open Go.RowKit Base Big Slices TrapA TrapB TrapG CodecA CodecB CodecC CodecK SessA SessB SessC SessD SessE SessF SessG SessH SessI
set_option linter.unusedVariables false
set_option linter.unusedSimpArgs false

theorem Try.query_str : Str Try.prog 27 10 := ⟨⟨_, Try.underlying27⟩, by kernel_rfl⟩
/-- the phase ahead of the k-th fail of n -/
def ph (k n : Nat) : Int := if k < n then 1 else 2
theorem ph_lt {k n : Nat} (h : k < n) : ph k n = 1 := if_pos h
theorem ph_ge {k n : Nat} (h : ¬ k < n) : ph k n = 2 := if_neg h
theorem ph_next (k n : Nat) : fphase k n = ph (k + 1) n := by
  unfold fphase ph
  split <;> split <;> first | rfl | omega
theorem fst_ph (r : Rq) (hk : r.k = 2) (n : Nat) : fst r n = ph 0 n := by
  unfold fst ph
  split <;> split <;> first | rfl | omega

section
variable (w : World)
theorem budget_form (b qk x1 x2 y1 y2 v1 v2 v3 x h : Int) (n : Nat) (hb0 : 0 ≤ b) (hb1 : b ≤ 255) (hn : Int.tmod b 30 = n) (hn30 : n ≤ 29) (hq : qk < 1 ∨ 7 < qk) :
    Calls Try.prog 3 #[.int .u8 b, .agg #[.int .i64 qk, .int .i64 x1, .int .i64 x2, .int .i64 y1, .int .i64 y2, .int .i64 v1, .int .i64 v2, .int .i64 v3, .int .i64 x, .int .i64 h]] w fun e w' => e = .returned (.bool true) ∧ Fr Nil w w' := by
  have G0 := Lib.hid ((Fr.refl Nil w).alloc (.cells #[.int .i64 qk, .int .i64 x1, .int .i64 x2, .int .i64 y1, .int .i64 y2, .int .i64 v1, .int .i64 v2, .int .i64 v3, .int .i64 x, .int .i64 h] 27))
  have HQ := Lib.hid (Bk.new w 27 #[.int .i64 qk, .int .i64 x1, .int .i64 x2, .int .i64 y1, .int .i64 y2, .int .i64 v1, .int .i64 v2, .int .i64 v3, .int .i64 x, .int .i64 h])
  have K1 := Lib.hid (fun W => New_ok W n (by omega) (by omega))
  have K2 : Hid (∀ W g, Ss W g 0 zQ 0 n → Calls Try.prog 7 #[.pointer (some ⟨g, 0, none⟩), .agg #[.int .i64 2, .int .i64 0, .int .i64 0, .int .i64 0, .int .i64 0, .int .i64 0, .int .i64 0, .int .i64 0, .int .i64 qk, .int .i64 x1, .int .i64 x2, .int .i64 y1, .int .i64 y2, .int .i64 v1, .int .i64 v2, .int .i64 v3, .int .i64 x, .int .i64 h]] W fun e w' => e = .returned (.int .i64 8) ∧ Fr Nil W w') := Lib.hid (fun W g hs => Start_bad W (r := (⟨2, 0, 0, 0, 0, 0, 0, 0, qk, x1, x2, y1, y2, v1, v2, v3, x, h⟩ : Rq)) hs (fun W' hs' => start_form W' hs' (by simp) (by unfold GoodQ; dsimp only; omega)))
  have KL := Lib.hid (fun W => lives_true W)
  rcases hq with q1 | q7
  · have n7 : ¬ 7 < qk := by omega
    go_enter Try.func3, Try.ntmps3
    go_wp2_with fail
    refine (K1.out _).mono ?_
    rintro e w1 ⟨rfl, hf1, hs1⟩
    have HQ1 := Lib.hid (HQ.out.fr hf1 id)
    have HF1 := Lib.hid (G0.out.trans hf1)
    have HS1 := Lib.hid hs1
    have hg1 : w.heap.size < (w.alloc (.cells #[.int .i64 qk, .int .i64 x1, .int .i64 x2, .int .i64 y1, .int .i64 y2, .int .i64 v1, .int .i64 v2, .int .i64 v3, .int .i64 x, .int .i64 h] 27)).heap.size := by simp
    generalize (w.alloc (.cells #[.int .i64 qk, .int .i64 x1, .int .i64 x2, .int .i64 y1, .int .i64 y2, .int .i64 v1, .int .i64 v2, .int .i64 v3, .int .i64 x, .int .i64 h] 27)).heap.size = g at *
    have c0 : w1.cell? ⟨w.heap.size, 0, none⟩ = some (.int .i64 qk) := HQ1.out.cell 0
    clear hf1 hs1 G0 HQ K1
    go_wp2_with (first
      | (with_reducible refine wpList_load (dst := some 32) ?_ Try.query_str HQ1.out rfl ?_); rfl)
    refine (K2.out _ _ HS1.out).mono ?_
    rintro e w2 ⟨rfl, hf2⟩
    have HF2 := Lib.hid (HF1.out.trans hf2)
    clear hf2
    go_wp2_with fail
    refine (KL.out _).mono ?_
    rintro e w3 ⟨rfl, hf3⟩
    have HF3 := Lib.hid (HF2.out.trans hf3)
    clear hf3
    go_wp2_with fail
    go_ret
    exact ⟨rfl, HF3.out⟩
  · have n1 : ¬ qk < 1 := by omega
    go_enter Try.func3, Try.ntmps3
    go_wp2_with fail
    refine (K1.out _).mono ?_
    rintro e w1 ⟨rfl, hf1, hs1⟩
    have HQ1 := Lib.hid (HQ.out.fr hf1 id)
    have HF1 := Lib.hid (G0.out.trans hf1)
    have HS1 := Lib.hid hs1
    have hg1 : w.heap.size < (w.alloc (.cells #[.int .i64 qk, .int .i64 x1, .int .i64 x2, .int .i64 y1, .int .i64 y2, .int .i64 v1, .int .i64 v2, .int .i64 v3, .int .i64 x, .int .i64 h] 27)).heap.size := by simp
    generalize (w.alloc (.cells #[.int .i64 qk, .int .i64 x1, .int .i64 x2, .int .i64 y1, .int .i64 y2, .int .i64 v1, .int .i64 v2, .int .i64 v3, .int .i64 x, .int .i64 h] 27)).heap.size = g at *
    have c0 : w1.cell? ⟨w.heap.size, 0, none⟩ = some (.int .i64 qk) := HQ1.out.cell 0
    clear hf1 hs1 G0 HQ K1
    go_wp2_with (first
      | (with_reducible refine wpList_load (dst := some 32) ?_ Try.query_str HQ1.out rfl ?_); rfl)
    refine (K2.out _ _ HS1.out).mono ?_
    rintro e w2 ⟨rfl, hf2⟩
    have HF2 := Lib.hid (HF1.out.trans hf2)
    clear hf2
    go_wp2_with fail
    refine (KL.out _).mono ?_
    rintro e w3 ⟨rfl, hf3⟩
    have HF3 := Lib.hid (HF2.out.trans hf3)
    clear hf3
    go_wp2_with fail
    go_ret
    exact ⟨rfl, HF3.out⟩
theorem budget_go (b qk x1 x2 y1 y2 v1 v2 v3 x h : Int) (n : Nat) (hb0 : 0 ≤ b) (hb1 : b ≤ 255) (hn : Int.tmod b 30 = n) (hn30 : n ≤ 29) (q1 : ¬ qk < 1) (q7 : ¬ 7 < qk) :
    Calls Try.prog 3 #[.int .u8 b, .agg #[.int .i64 qk, .int .i64 x1, .int .i64 x2, .int .i64 y1, .int .i64 y2, .int .i64 v1, .int .i64 v2, .int .i64 v3, .int .i64 x, .int .i64 h]] w fun e w' => e = .returned (.bool true) ∧ Fr Nil w w' := by
  have G0 := Lib.hid ((Fr.refl Nil w).alloc (.cells #[.int .i64 qk, .int .i64 x1, .int .i64 x2, .int .i64 y1, .int .i64 y2, .int .i64 v1, .int .i64 v2, .int .i64 v3, .int .i64 x, .int .i64 h] 27))
  have HQ := Lib.hid (Bk.new w 27 #[.int .i64 qk, .int .i64 x1, .int .i64 x2, .int .i64 y1, .int .i64 y2, .int .i64 v1, .int .i64 v2, .int .i64 v3, .int .i64 x, .int .i64 h])
  have K1 := Lib.hid (fun W => New_ok W n (by omega) (by omega))
  have K2 : Hid (∀ W g, Ss W g 0 zQ 0 n → Calls Try.prog 7 #[.pointer (some ⟨g, 0, none⟩), .agg #[.int .i64 2, .int .i64 0, .int .i64 0, .int .i64 0, .int .i64 0, .int .i64 0, .int .i64 0, .int .i64 0, .int .i64 qk, .int .i64 x1, .int .i64 x2, .int .i64 y1, .int .i64 y2, .int .i64 v1, .int .i64 v2, .int .i64 v3, .int .i64 x, .int .i64 h]] W fun e w' => e = .returned (.int .i64 0) ∧ Fr (fun k => k = g) W w' ∧ Ss w' g (ph 0 n) (onlyQ (⟨2, 0, 0, 0, 0, 0, 0, 0, qk, x1, x2, y1, y2, v1, v2, v3, x, h⟩ : Rq)) 0 n) := Lib.hid (fun W g hs => by
    rw [← fst_ph (⟨2, 0, 0, 0, 0, 0, 0, 0, qk, x1, x2, y1, y2, v1, v2, v3, x, h⟩ : Rq) rfl n]
    exact Start_ok W (r := (⟨2, 0, 0, 0, 0, 0, 0, 0, qk, x1, x2, y1, y2, v1, v2, v3, x, h⟩ : Rq)) hs (Or.inr ⟨rfl, by dsimp only; omega, by dsimp only; omega⟩))
  generalize onlyQ (⟨2, 0, 0, 0, 0, 0, 0, 0, qk, x1, x2, y1, y2, v1, v2, v3, x, h⟩ : Rq) = oq at *
  have K3 := Lib.hid (fun W g p r t (hs : Ss W g p r t n) => Phase_any W hs)
  have K4 := Lib.hid (fun W g p r t (hs : Ss W g p r t n) => Tries_any W hs)
  have K5 : Hid (∀ W g r (k : Nat), Ss W g 1 r k n → k < n → Calls Try.prog 11 #[.pointer (some ⟨g, 0, none⟩)] W fun e w' => e = .returned (.int .i64 0) ∧ Fr (fun k => k = g) W w' ∧ Ss w' g (ph (k + 1) n) r ((k + 1 : Nat) : Int) n) := Lib.hid (fun W g r k hs hk => by
    rw [← ph_next k n, Int.natCast_add]
    exact Fail_ok W hs (by omega) (by omega))
  have K6 := Lib.hid (fun W g p r t (hs : Ss W g p r t n) (hp : p ≠ 1) => Fail_bad W hs hp)
  have KL := Lib.hid (fun W => lives_true W)
  go_enter Try.func3, Try.ntmps3
  go_wp2_with fail
  refine (K1.out _).mono ?_
  rintro e w1 ⟨rfl, hf1, hs1⟩
  have HQ1 := Lib.hid (HQ.out.fr hf1 id)
  have HF1 := Lib.hid (G0.out.trans hf1)
  have HS1 := Lib.hid hs1
  have hg1 : w.heap.size < (w.alloc (.cells #[.int .i64 qk, .int .i64 x1, .int .i64 x2, .int .i64 y1, .int .i64 y2, .int .i64 v1, .int .i64 v2, .int .i64 v3, .int .i64 x, .int .i64 h] 27)).heap.size := by simp
  generalize (w.alloc (.cells #[.int .i64 qk, .int .i64 x1, .int .i64 x2, .int .i64 y1, .int .i64 y2, .int .i64 v1, .int .i64 v2, .int .i64 v3, .int .i64 x, .int .i64 h] 27)).heap.size = g at *
  have c0 : w1.cell? ⟨w.heap.size, 0, none⟩ = some (.int .i64 qk) := HQ1.out.cell 0
  clear hf1 hs1 G0 HQ K1
  go_wp2_with (first
    | (with_reducible refine wpList_load (dst := some 40) ?_ Try.query_str HQ1.out rfl ?_); rfl)
  refine (K2.out _ _ HS1.out).mono ?_
  rintro e w2 ⟨rfl, hf2, hs2⟩
  have HF2 := Lib.hid (HF1.out.then hf2 (fun k hk hlt => by omega))
  have HS2 := Lib.hid hs2
  clear hf2 hs2 K2 HS1 HQ1 HF1 c0
  go_wp2_with fail
  go_loopw [8] (fun i wr => ∃ k : Nat, k ≤ n ∧ i = .int .i64 k ∧ Ss wr g (ph k n) oq k n ∧ Fr Nil w wr) (fun i _ => n - (intOf i).toNat)
  case atStart => exact ⟨0, by omega, rfl, HS2.out, HF2.out⟩
  case round =>
    obtain ⟨k, hk, rfl, hs, hf⟩ := hrel
    by_cases hlt : k < n
    · have HS := Lib.hid (show Ss _ g 1 oq k n by rw [← ph_lt hlt]; exact hs)
      have HF := Lib.hid hf
      have hlt' : (k : Int) < n := by omega
      have hn29 : (n : Int) ≤ 29 := by omega
      clear hs hf HS2 HF2
      go_wp2_with fail
      refine (K3.out _ _ _ _ _ HS.out).mono ?_
      rintro e w3 ⟨rfl, hf3⟩
      have HS3 := Lib.hid (Bk.fr HS.out hf3 id)
      have HF3 := Lib.hid (HF.out.trans hf3)
      clear hf3
      go_wp2_with fail
      refine (K4.out _ _ _ _ _ HS3.out).mono ?_
      rintro e w4 ⟨rfl, hf4⟩
      have HS4 := Lib.hid (Bk.fr HS3.out hf4 id)
      have HF4 := Lib.hid (HF3.out.trans hf4)
      clear hf4
      go_wp2_with fail
      refine (K5.out _ _ _ _ HS4.out hlt).mono ?_
      rintro e w5 ⟨rfl, hf5, hs5⟩
      have HS5 := Lib.hid hs5
      have HF5 := Lib.hid (HF4.out.then hf5 (fun k hk hlt => by omega))
      clear hf5 hs5
      go_wp2_with fail
      go_round
      case rel => exact ⟨k + 1, by omega, by go_num, HS5.out, HF5.out⟩
      case measure => simp [intOf]; omega
    · obtain rfl : k = n := by omega
      have HS := Lib.hid (show Ss _ g 2 oq k k by rw [← ph_ge hlt]; exact hs)
      have HF := Lib.hid hf
      clear hs hf HS2 HF2
      go_wp2_with fail
      refine (K3.out _ _ _ _ _ HS.out).mono ?_
      rintro e w3 ⟨rfl, hf3⟩
      have HS3 := Lib.hid (Bk.fr HS.out hf3 id)
      have HF3 := Lib.hid (HF.out.trans hf3)
      clear hf3
      go_wp2_with fail
      refine (K6.out _ _ _ _ _ HS3.out (by decide)).mono ?_
      rintro e w4 ⟨rfl, hf4⟩
      have HF4 := Lib.hid (HF3.out.trans hf4)
      clear hf4
      go_wp2_with fail
      refine (KL.out _).mono ?_
      rintro e w5 ⟨rfl, hf5⟩
      have HF5 := Lib.hid (HF4.out.trans hf5)
      clear hf5
      go_wp2_with fail
      go_ret
      exact ⟨rfl, HF5.out⟩
theorem budget_any (b qk x1 x2 y1 y2 v1 v2 v3 x h : Int) (hb0 : 0 ≤ b) (hb1 : b ≤ 255) :
    Calls Try.prog 3 #[.int .u8 b, .agg #[.int .i64 qk, .int .i64 x1, .int .i64 x2, .int .i64 y1, .int .i64 y2, .int .i64 v1, .int .i64 v2, .int .i64 v3, .int .i64 x, .int .i64 h]] w fun e w' => e = .returned (.bool true) ∧ Fr Nil w w' := by
  have h1 := Int.tmod_nonneg 30 hb0
  have h2 := Int.tmod_lt_of_pos b (show (0 : Int) < 30 by decide)
  by_cases hq : qk < 1 ∨ 7 < qk
  · exact budget_form w b qk x1 x2 y1 y2 v1 v2 v3 x h (Int.tmod b 30).toNat hb0 hb1 (by omega) (by omega) hq
  · exact budget_go w b qk x1 x2 y1 y2 v1 v2 v3 x h (Int.tmod b 30).toNat hb0 hb1 (by omega) (by omega) (by omega) (by omega)
end
theorem wf_u8 {n : Int} (h : (Lit.int .u8 n).wf = true) : 0 ≤ n ∧ n ≤ 255 := by
  simp only [Lit.wf, Bool.and_eq_true, decide_eq_true_eq] at h
  exact h
end Go.Proofs.Yteceghhjpejdnaa.SessK
