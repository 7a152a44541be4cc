/- Chapter 10: the walk of the law StackParts. -/
import Derived.Test.YtgibhgppfmbnaaaStackJ
import Derived.Deep.RegionHeld3
import Derived.IntWalk
namespace Go.Proofs.Ytgibhgppfmbnaaa.StackK
open Go.RowKit Base Slices Quiet StackA StackB StackC StackD StackE StackG StackH StackI StackJ TrapA TrapB TrapG
set_option linter.unusedVariables false
set_option linter.unusedSimpArgs false

theorem apart_step {F F' T : Nat → Prop} {w : World} (h : ∀ k, F' k → F k ∨ w.heap.size ≤ k) (hd : ∀ k, T k → ¬ F k) (ht : ∀ k, T k → k < w.heap.size) : ∀ k, T k → ¬ F' k := fun k hk s => by
  rcases h k s with e | e
  · exact hd k hk e
  · have := ht k hk
    omega

set_option maxRecDepth 100000 in
set_option maxHeartbeats 16000000 in
theorem parts_any (w : World) {l : List Int} {y : Value} (a b : Nat) (ha : a ≤ 255) (hb : b ≤ 255) (hy : Come EI w y l) (hm : l.length ≤ maxLen) :
    Calls Try.prog 4 #[y, .int .u8 (a : Int), .int .u8 (b : Int)] w fun e w' => e = .returned (.bool true) ∧ Fr Nil w w' := by
  have HY := Lib.hid hy
  have HM := Lib.hid hm
  obtain ⟨A, c, rfl⟩ := hy.shape
  have a0 : (0 : Int) ≤ a := by omega
  have a1 : (a : Int) ≤ 255 := by omega
  have b0 : (0 : Int) ≤ b := by omega
  have b1 : (b : Int) ≤ 255 := by omega
  have HAB := Lib.hid (And.intro ha hb)
  obtain ⟨m, hml⟩ : ∃ m, l.take 20 = m := ⟨_, rfl⟩
  have hm20 : m.length ≤ 20 := by rw [← hml, List.length_take]; omega
  have HML := Lib.hid hml
  have HM20 := Lib.hid hm20
  clear hy hm ha hb hml hm20
  go_enter Try.func4, Try.ntmps4
  go_wp2_with fail
  refine (New_ok w 200 (by decide) (by decide)).mono ?_
  rintro e w1 ⟨rfl, hf1, hs1⟩
  have HF1 := Lib.hid hf1
  have HS1 := Lib.hid hs1
  clear hf1 hs1
  go_wp2_with fail
  refine (New_ok w1 200 (by decide) (by decide)).mono ?_
  rintro e w2 ⟨rfl, hf2, ht2⟩
  have HF2 := Lib.hid hf2
  have HT2 := Lib.hid ht2
  clear hf2 ht2
  go_wp2_with fail
  refine (Few_any w2 (k := 20) (HY.out.fr (HF1.out.trans HF2.out)) (by decide) HM.out).mono ?_
  rintro e w3 ⟨u3, rfl, hf3, ho3, _⟩
  rw [HML.out] at ho3
  obtain ⟨A3, c3, hu3⟩ := (ho3.sl EI_ok).shape
  subst hu3
  have HF3 := Lib.hid hf3
  have HO3 := Lib.hid ho3
  clear hf3 ho3
  go_wp2_with fail
  refine (Few_any w3 (k := 20) (HO3.out.sl EI_ok).come (by decide) (by have := HM20.out; unfold maxLen; omega)).mono ?_
  rintro e w4 ⟨u4, rfl, hf4, ho4, _⟩
  rw [List.take_of_length_le HM20.out] at ho4
  obtain ⟨A4, c4, hu4⟩ := (ho4.sl EI_ok).shape
  subst hu4
  have HF4 := Lib.hid hf4
  have HO4 := Lib.hid ho4
  clear hf4 ho4
  go_wp2_with fail
  refine (Push_fits w4 (l := []) (((HS1.out.nil HF2.out).nil HF3.out).nil HF4.out) (HO4.out.sl EI_ok).come (by have := HM20.out; simp; omega) (by decide)).mono ?_
  rintro e w5 ⟨rfl, hf5, v1, hs5, hm5⟩
  rw [List.nil_append] at hs5
  have HF5 := Lib.hid hf5
  have HS5 := Lib.hid hs5
  have HM5 := Lib.hid hm5
  clear hf5 hs5 hm5
  -- what lies where
  have hgs1 := HS1.out.1.lt
  have hsz2 := HF2.out.size
  have hsz3 := HF3.out.size
  have hsz4 := HF4.out.size
  have hsz5 := HF5.out.size
  have hgt2 := HT2.out.1.lt
  have HU5 := Lib.hid (((HO3.out.sl EI_ok).fr HF4.out).frS HF5.out (fun k hk s => by
    have := (HO3.out.lt k hk).1
    rcases s with rfl | s
    · omega
    · cases s))
  have HT5 := Lib.hid (((HT2.out.nil HF3.out).nil HF4.out).fr HF5.out (fun k hk s => by
    rcases s with rfl | s
    · rcases hk with hk | hk
      · omega
      · cases hk
    · cases s))
  have HG := Lib.hid (And.intro hgs1 (And.intro hgt2 (And.intro hsz2 (And.intro hsz3 (And.intro hsz4 hsz5)))))
  clear hgs1 hsz2 hsz3 hsz4 hsz5 hgt2
  go_wp2_with fail
  refine (Few_any w5 (k := 20) HU5.out.come (by decide) (by have := HM20.out; unfold maxLen; omega)).mono ?_
  rintro e w6 ⟨u6, rfl, hf6, ho6, _⟩
  rw [List.take_of_length_le HM20.out] at ho6
  obtain ⟨A6, c6, hu6⟩ := (ho6.sl EI_ok).shape
  subst hu6
  have HF6 := Lib.hid hf6
  have HO6 := Lib.hid ho6
  clear hf6 ho6
  go_wp2_with fail
  refine (Push_fits w6 (l := []) (HT5.out.nil HF6.out) (HO6.out.sl EI_ok).come (by have := HM20.out; simp; omega) (by decide)).mono ?_
  rintro e w7 ⟨rfl, hf7, v2, ht7, hm7⟩
  rw [List.nil_append] at ht7
  have HS7 := Lib.hid ((HS5.out.nil HF6.out).fr hf7 (fun k hk s => by
    have ⟨g1, g2, g3, g4, g5, g6⟩ := HG.out
    rcases s with rfl | s
    · rcases hk with hk | hk
      · omega
      · rcases HM5.out _ hk with e | e
        · cases e
        · omega
    · cases s))
  have HF7 := Lib.hid hf7
  have HT7 := Lib.hid ht7
  have HM7 := Lib.hid hm7
  clear hf7 ht7 hm7
  go_wp2_with fail
  have hsz6 := HF6.out.size
  have hsz7 := HF7.out.size
  have HG7 := Lib.hid (And.intro hsz6 hsz7)
  clear hsz6 hsz7
  have HTs := Lib.hid (show Two ((w7.alloc (.cells #[.slice none 0 0] 42)).alloc (.cells #[.slice none 0 0] 42)) w.heap.size w7.heap.size v1 (.slice none 0 0) m [] 200 from ⟨HS7.out.nil (by (repeat' (with_reducible first | refine Fr.setCell ?_ (fun hlt => absurd hlt (by dsimp only; omega)) _ | refine Fr.alloc ?_ _ | refine Fr.drewN ?_ _ | refine Fr.drew ?_ | exact Fr.refl _ _))), ⟨by (repeat' (first | ((with_reducible refine new' ?_); simp; done) | with_reducible refine Bk.alloc ?_ _ | with_reducible refine Bk.far ?_ (by dsimp only; omega) _ | with_reducible refine Bk.drewN ?_ _ | with_reducible refine Bk.drew ?_)), Own.nil _ _⟩, fun k _ h => by cases h⟩)
  have HTt := Lib.hid (show Two ((w7.alloc (.cells #[.slice none 0 0] 42)).alloc (.cells #[.slice none 0 0] 42)) w1.heap.size (w7.heap.size + 1) v2 (.slice none 0 0) m [] 200 from ⟨HT7.out.nil (by (repeat' (with_reducible first | refine Fr.setCell ?_ (fun hlt => absurd hlt (by dsimp only; omega)) _ | refine Fr.alloc ?_ _ | refine Fr.drewN ?_ _ | refine Fr.drew ?_ | exact Fr.refl _ _))), ⟨by (repeat' (first | ((with_reducible refine new' ?_); simp; done) | with_reducible refine Bk.alloc ?_ _ | with_reducible refine Bk.far ?_ (by dsimp only; omega) _ | with_reducible refine Bk.drewN ?_ _ | with_reducible refine Bk.drew ?_)), Own.nil _ _⟩, fun k _ h => by cases h⟩)
  have HD := Lib.hid (show ∀ k, F2 w1.heap.size (w7.heap.size + 1) v2 (.slice none 0 0) k → ¬ F2 w.heap.size w7.heap.size v1 (.slice none 0 0) k from fun k hk s => by
    have ⟨g1, g2, g3, g4, g5, g6⟩ := HG.out
    have ⟨g7, g8⟩ := HG7.out
    have q1 : ∀ k, v1.ownBlock = some k → w4.heap.size ≤ k ∧ k < w5.heap.size := fun k hk => ⟨(HM5.out k hk).elim (fun e => by cases e) id, (HS5.out.2.lt k hk).2⟩
    have q2 : ∀ k, v2.ownBlock = some k → w6.heap.size ≤ k ∧ k < w7.heap.size := fun k hk => ⟨(HM7.out k hk).elim (fun e => by cases e) id, (HT7.out.2.lt k hk).2⟩
    rcases hk with rfl | rfl | hk | hk
    · rcases s with s | s | s | s
      · omega
      · omega
      · have := q1 _ s; omega
      · cases s
    · rcases s with s | s | s | s
      · omega
      · omega
      · have := q1 _ s; omega
      · cases s
    · have := q2 _ hk
      rcases s with s | s | s | s
      · omega
      · omega
      · have := q1 _ s; omega
      · cases s
    · cases hk)
  have HBs := Lib.hid (show ∀ k, F2 w.heap.size w7.heap.size v1 (.slice none 0 0) k → w.heap.size ≤ k from fun k s => by
    have ⟨g1, g2, g3, g4, g5, g6⟩ := HG.out
    have ⟨g7, g8⟩ := HG7.out
    rcases s with s | s | s | s
    · omega
    · omega
    · rcases HM5.out k s with e | e
      · cases e
      · omega
    · cases s)
  have HBt := Lib.hid (show ∀ k, F2 w1.heap.size (w7.heap.size + 1) v2 (.slice none 0 0) k → w.heap.size ≤ k from fun k s => by
    have ⟨g1, g2, g3, g4, g5, g6⟩ := HG.out
    have ⟨g7, g8⟩ := HG7.out
    rcases s with s | s | s | s
    · omega
    · omega
    · rcases HM7.out k s with e | e
      · cases e
      · omega
    · cases s)
  obtain ⟨⟨seA, lA⟩, hsa⟩ : ∃ p, it a ([], m) = p := ⟨_, rfl⟩
  obtain ⟨⟨seB, lB⟩, hsb⟩ : ∃ p, it b (seA, lA) = p := ⟨_, rfl⟩
  have hsz : it (a + b) ([], m) = (seB, lB) := by rw [it_add, hsa, hsb]
  have hlow := Low.of_len HM20.out
  have hlowA : Low lA := by have := hlow.it (n := a) (a := []); rw [hsa] at this; exact this
  have hlA := it_len a [] m
  have hlB := it_len b seA lA
  rw [hsa] at hlA
  rw [hsb] at hlB
  simp only [List.length_nil, Nat.zero_add] at hlA hlB
  have hab := HAB.out
  obtain ⟨X, hX⟩ : ∃ X : Nat, seA.length - ([] : List Int).length = X := ⟨_, rfl⟩
  obtain ⟨Y, hY⟩ : ∃ Y : Nat, seB.length - seA.length = Y := ⟨_, rfl⟩
  obtain ⟨Z, hZ⟩ : ∃ Z : Nat, seB.length - ([] : List Int).length = Z := ⟨_, rfl⟩
  have hXY : IntKind.i64.wrap ((X : Int) + Y) = Z := by
    simp only [List.length_nil] at hX hZ
    rw [IntWalk.i64_in _ (by omega)]
    omega
  have kA := fun W (h : Two W w.heap.size w7.heap.size v1 (.slice none 0 0) m [] 200) => Walk_any W (m := a) h hlow (by decide) (by decide) (by decide) (by omega)
  have kB := fun W v sv (h : Two W w.heap.size w7.heap.size v sv lA seA 200) => Walk_any W (m := b) h hlowA (by decide) (by decide) (by omega) (by omega)
  have kC := fun W (h : Two W w1.heap.size (w7.heap.size + 1) v2 (.slice none 0 0) m [] 200) => Walk_any W (m := a + b) h hlow (by decide) (by decide) (by decide) (by omega)
  simp only [hsa, hsb, hsz, hX, hY, hZ] at kA kB kC
  simp only [Int.natCast_add] at kC
  have KA := Lib.hid kA
  have KB := Lib.hid kB
  have KC := Lib.hid kC
  have HXY := Lib.hid hXY
  have HLB := Lib.hid (show seB.length ≤ 100000 by omega)
  have HLL := Lib.hid (show lB.length ≤ 100000 by have h1 : Low lB := by have := hlowA.it (n := b) (a := seA); rw [hsb] at this; exact this
                                                  have := h1.len; omega)
  clear kA kB kC hXY hX hY hZ hab hlA hlB hlowA hlow hsz hsa hsb
  refine (KA.out _ HTs.out).mono ?_
  rintro e w8 ⟨rfl, va, sva, ht8, hf8, hg8⟩
  have HT8 := Lib.hid ht8
  have HTt8 := Lib.hid (HTt.out.fr hf8 (fun k hk s => HD.out k hk s))
  have HD8 := Lib.hid (apart_step hg8 HD.out HTt.out.lt)
  have h7 : Fr Nil w w7 := ((((((HF1.out.trans HF2.out).trans HF3.out).trans HF4.out).then HF5.out (fun i hi hlt => by
    rcases hi with rfl | hi
    · exact absurd hlt (Nat.lt_irrefl _)
    · cases hi)).trans HF6.out).then HF7.out (fun i hi hlt => by
    have ⟨g1, _⟩ := HG.out
    rcases hi with rfl | hi
    · omega
    · cases hi))
  have h8 : Fr Nil w w8 := Fr.then (b := ((w7.alloc (.cells #[.slice none 0 0] 42)).alloc (.cells #[.slice none 0 0] 42))) (by (repeat' (with_reducible first | exact h7 | refine Fr.setCell ?_ (fun hlt => absurd hlt (by dsimp only; omega)) _ | refine Fr.alloc ?_ _ | refine Fr.drewN ?_ _ | refine Fr.drew ?_))) hf8 (fun i hi hlt => absurd (HBs.out i hi) (by omega))
  have HF8 := Lib.hid h8
  have HB8 := Lib.hid (show ∀ k, F2 w.heap.size w7.heap.size va sva k → w.heap.size ≤ k from fun k s => by
    rcases hg8 k s with e | e
    · exact HBs.out k e
    · have := h7.size
      simp at e
      omega)
  clear h7 h8
  clear ht8 hf8 hg8
  go_wp2_with fail
  refine (KB.out _ _ _ HT8.out).mono ?_
  rintro e w9 ⟨rfl, vb, svb, ht9, hf9, hg9⟩
  have HT9 := Lib.hid ht9
  have HTt9 := Lib.hid (HTt8.out.fr hf9 (fun k hk s => HD8.out k hk s))
  have HD9 := Lib.hid (apart_step hg9 HD8.out HTt8.out.lt)
  have HF9 := Lib.hid (HF8.out.then hf9 (fun i hi hlt => absurd (HB8.out i hi) (by omega)))
  clear ht9 hf9 hg9
  go_wp2_with fail
  refine (KC.out _ HTt9.out).mono ?_
  rintro e w10 ⟨rfl, vc, svc, ht10, hf10, hg10⟩
  have HT10 := Lib.hid (HT9.out.fr hf10 (fun k hk s => HD9.out k s hk))
  have HC10 := Lib.hid ht10
  have HF10 := Lib.hid (HF9.out.then hf10 (fun i hi hlt => absurd (HBt.out i hi) (by omega)))
  clear ht10 hf10 hg10
  obtain ⟨Ab, cb, hsvb⟩ := (HT10.out.2.1.2.sl EI_ok).shape
  obtain ⟨Ac, cc, hsvc⟩ := (HC10.out.2.1.2.sl EI_ok).shape
  subst hsvb
  subst hsvc
  obtain ⟨x0, _⟩ := HT10.out.2.1.1.c1
  obtain ⟨y0, _⟩ := HC10.out.2.1.1.c1
  have xy := HXY.out
  have KS := Lib.hid (fun W (hW : Fr Nil w10 W) => same_any W HLB.out ((HT10.out.2.1.2.sl EI_ok).fr hW) ((HC10.out.2.1.2.sl EI_ok).fr hW))
  have KR := Lib.hid (fun W (hW : Fr Nil w10 W) => rest_any W (HT10.out.1.nil hW) HLL.out)
  have KQ := Lib.hid (fun W (hW : Fr Nil w10 W) => rest_any W (HC10.out.1.nil hW) HLL.out)
  have gg := Fr.refl Nil w10
  go_wp2_with fail
  go_region_held3 (fun w' => w'.cell? ⟨w7.heap.size, 0, none⟩ = some (.slice Ab seB.length cb) ∧ w'.cell? ⟨w7.heap.size + 1, 0, none⟩ = some (.slice Ac seB.length cc)) (first | (go_keep; done) | exact ⟨(HT10.out.2.1.1.fr gg id).cell 0, (HC10.out.2.1.1.fr gg id).cell 0⟩)
    (first
      | (go_at_call 14; (with_reducible refine (KS.out _ ?_).mono ?_); ((repeat' (with_reducible first | exact gg | refine Fr.setCell ?_ (fun hlt => absurd hlt (by dsimp only; omega)) _ | refine Fr.alloc ?_ _ | refine Fr.drewN ?_ _ | refine Fr.drew ?_))); rintro e w11 ⟨rfl, hf11⟩; have gg := Fr.trans (a := w10) (by (repeat' (with_reducible first | exact gg | refine Fr.setCell ?_ (fun hlt => absurd hlt (by dsimp only; omega)) _ | refine Fr.alloc ?_ _ | refine Fr.drewN ?_ _ | refine Fr.drew ?_))) hf11)
      | (go_at_call 15; (with_reducible refine (KR.out _ ?_).mono ?_); ((repeat' (with_reducible first | exact gg | refine Fr.setCell ?_ (fun hlt => absurd hlt (by dsimp only; omega)) _ | refine Fr.alloc ?_ _ | refine Fr.drewN ?_ _ | refine Fr.drew ?_))); rintro e w12 ⟨A12, c12, rfl, hf12, hs12⟩; have HS12 := Lib.hid hs12; have gg := Fr.trans (a := w10) (by (repeat' (with_reducible first | exact gg | refine Fr.setCell ?_ (fun hlt => absurd hlt (by dsimp only; omega)) _ | refine Fr.alloc ?_ _ | refine Fr.drewN ?_ _ | refine Fr.drew ?_))) hf12)
      | (go_at_call 15; (with_reducible refine (KQ.out _ ?_).mono ?_); ((repeat' (with_reducible first | exact gg | refine Fr.setCell ?_ (fun hlt => absurd hlt (by dsimp only; omega)) _ | refine Fr.alloc ?_ _ | refine Fr.drewN ?_ _ | refine Fr.drew ?_))); rintro e w13 ⟨A13, c13, rfl, hf13, hs13⟩; have HS13 := Lib.hid hs13; have HS12' := Lib.hid (HS12.out.fr (Fr.trans (by (repeat' (with_reducible first | refine Fr.setCell ?_ (fun hlt => absurd hlt (by dsimp only; omega)) _ | refine Fr.alloc ?_ _ | refine Fr.drewN ?_ _ | refine Fr.drew ?_ | exact Fr.refl _ _))) hf13)); have gg := Fr.trans (a := w10) (by (repeat' (with_reducible first | exact gg | refine Fr.setCell ?_ (fun hlt => absurd hlt (by dsimp only; omega)) _ | refine Fr.alloc ?_ _ | refine Fr.drewN ?_ _ | refine Fr.drew ?_))) hf13)
      | (go_at_call 14; (with_reducible refine (same_any _ HLL.out (HS12'.out.fr ?_) (HS13.out.fr ?_)).mono ?_); ((repeat' (with_reducible first | refine Fr.setCell ?_ (fun hlt => absurd hlt (by dsimp only; omega)) _ | refine Fr.alloc ?_ _ | refine Fr.drewN ?_ _ | refine Fr.drew ?_ | exact Fr.refl _ _))); ((repeat' (with_reducible first | refine Fr.setCell ?_ (fun hlt => absurd hlt (by dsimp only; omega)) _ | refine Fr.alloc ?_ _ | refine Fr.drewN ?_ _ | refine Fr.drew ?_ | exact Fr.refl _ _))); rintro e w14 ⟨rfl, hf14⟩; have gg := Fr.trans (a := w10) (by (repeat' (with_reducible first | exact gg | refine Fr.setCell ?_ (fun hlt => absurd hlt (by dsimp only; omega)) _ | refine Fr.alloc ?_ _ | refine Fr.drewN ?_ _ | refine Fr.drew ?_))) hf14)
      | (go_at_call 7; (with_reducible refine (lives_any _).mono ?_); rintro e w15 ⟨rfl, hf15⟩; have gg := Fr.trans (a := w10) (by (repeat' (with_reducible first | exact gg | refine Fr.setCell ?_ (fun hlt => absurd hlt (by dsimp only; omega)) _ | refine Fr.alloc ?_ _ | refine Fr.drewN ?_ _ | refine Fr.drew ?_))) hf15))
  go_wp2_with fail
  exact bodyPost_ret (v := .bool true) (by simp [results, Try.results4, go_sem]) rfl ⟨rfl, HF10.out.trans (by (repeat' (with_reducible first | exact gg | refine Fr.setCell ?_ (fun hlt => absurd hlt (by dsimp only; omega)) _ | refine Fr.alloc ?_ _ | refine Fr.drewN ?_ _ | refine Fr.drew ?_)))⟩
theorem parts_all (w : World) {l : List Int} {y : Value} (a b : Int) (hy : Come EI w y l) (hm : l.length ≤ maxLen) (ha : 0 ≤ a ∧ a ≤ 255) (hb : 0 ≤ b ∧ b ≤ 255) :
    Calls Try.prog 4 #[y, .int .u8 a, .int .u8 b] w fun e w' => e = .returned (.bool true) ∧ Fr Nil w w' := by
  obtain ⟨n, rfl⟩ := Int.eq_ofNat_of_zero_le ha.1
  obtain ⟨k, rfl⟩ := Int.eq_ofNat_of_zero_le hb.1
  exact parts_any w n k (by omega) (by omega) hy hm
theorem u8_bd {n : Int} (h : (Lit.int .u8 n).wf = true) : 0 ≤ n ∧ n ≤ 255 := by
  have e : IntKind.u8.min = 0 ∧ IntKind.u8.max = 255 := by decide
  simp only [Lit.wf, e.1, e.2, Bool.and_eq_true, decide_eq_true_eq] at h
  exact h
end Go.Proofs.Ytgibhgppfmbnaaa.StackK
