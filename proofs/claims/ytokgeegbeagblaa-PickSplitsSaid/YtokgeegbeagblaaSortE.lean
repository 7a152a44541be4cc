/- Chapter 7: the walk of Put. -/
import Derived.Test.YtokgeegbeagblaaSortD
namespace Go.Proofs.Ytokgeegbeagblaa.SortE
open Go.RowKit Base SortA SortB SortC SortD
set_option linter.unusedVariables false
set_option linter.unusedSimpArgs false

/-- what Go's l[k:] is -/
theorem tail_sl {w : World} {g o cap : Nat} {l : List Pr} (k : Nat) (hc : l.length ≤ cap) (hk : k ≤ l.length) (ha : g < w.heap.size) (hr : Row w g o l) : Sl w (.slice (if cap = k then some ⟨g, o, none⟩ else some ⟨g, o + k * 2, none⟩) (l.length - k) (cap - k)) (l.drop k) := by
  have hld : (l.drop k).length = l.length - k := by rw [List.length_drop]
  split
  · have : l.drop k = [] := List.drop_eq_nil_of_le (by omega)
    exact Or.inr ⟨g, o, cap - k, by rw [hld], by omega, ha, by rw [this]; exact fun i p h => by simp at h⟩
  · exact Or.inr ⟨g, o + k * 2, cap - k, by rw [hld], by omega, ha, hr.drop k⟩
theorem head_sl {w : World} {g o cap : Nat} {l : List Pr} (k : Nat) (hc : l.length ≤ cap) (hk : k ≤ l.length) (ha : g < w.heap.size) (hr : Row w g o l) : Sl w (.slice (some ⟨g, o, none⟩) k cap) (l.take k) := by
  have hlt : (l.take k).length = k := by rw [List.length_take]; omega
  exact Or.inr ⟨g, o, cap, by rw [hlt], by omega, ha, hr.take k⟩

set_option maxRecDepth 100000 in
set_option maxHeartbeats 4000000 in
theorem put_some (l : List Pr) (p : Pr) (g o cap : Nat) (w : World) (hl : l.length ≤ 1000) (hc : l.length ≤ cap) (ha : g < w.heap.size) (hr : Row w g o l) :
    Calls Try.prog 22 #[.slice (some ⟨g, o, none⟩) l.length cap, .agg #[.int .i64 p.1, .int .i64 p.2]] w fun e w' => ∃ u, e = .returned u ∧ Fr Nil w w' ∧ Own w' w.heap.size u (ins l p) ∧ u ≠ .slice none 0 0 := by
  obtain ⟨k, hk⟩ : ∃ k, upto l p.1 = k := ⟨_, rfl⟩
  have hkl : k ≤ l.length := by rw [← hk]; exact upto_le l p.1
  have hi : ins l p = l.take k ++ [p] ++ l.drop k := by unfold ins; rw [hk]; simp
  rw [hi]
  have hu := fun W (h : Sl W (.slice (some ⟨g, o, none⟩) l.length cap) l) => upto_any l p.1 _ W (by omega) h
  rw [hk] at hu
  have HS := Lib.hid (show Sl w (.slice (some ⟨g, o, none⟩) l.length cap) l from Or.inr ⟨g, o, cap, rfl, hc, ha, hr⟩)
  have hlt : (l.take k).length = k := by rw [List.length_take]; omega
  have hld : (l.drop k).length = l.length - k := by rw [List.length_drop]
  have HT0 := Lib.hid (show Sl w (.slice (some ⟨g, o, none⟩) k cap) (l.take k) from Or.inr ⟨g, o, cap, by rw [hlt], by omega, ha, hr.take k⟩)
  have HD0 := Lib.hid (tail_sl k hc hkl ha hr)
  have HU := Lib.hid hu
  have HI := Lib.hid hi
  have HK := Lib.hid hk
  clear hr hu hi hk
  have hkc : (k : Int) ≤ cap := by omega
  have hkl' : (k : Int) ≤ l.length := by omega
  have hk0 : (0 : Int) ≤ k := by omega
  go_enter Try.func22, Try.ntmps22
  go_wp2_with fail
  refine (HU.out _ (Sl.alloc HS.out _)).mono ?_
  rintro e w1 ⟨rfl, hf1⟩
  have hB : Bk w1 w.heap.size 28 #[.int .i64 p.1, .int .i64 p.2] := (Bk.new w _ _).fr hf1 id
  have HT := Lib.hid ((Sl.alloc HT0.out _).fr hf1)
  have HD := Lib.hid (Sl.fr (Sl.alloc HD0.out _) hf1)
  have g1 := ((Fr.refl Nil w).alloc (.cells #[.int .i64 p.1, .int .i64 p.2] 28)).trans hf1
  obtain ⟨b0, b1, _, _⟩ := hB.c2
  have HB := Lib.hid hB
  have G1 := Lib.hid g1
  clear hB g1 hf1
  have O1 := Lib.hid (show Own (w1.alloc (.cells #[] 28)).drew w1.heap.size (.slice (some ⟨w1.heap.size, 0, none⟩) 0 0) [] from (Own.made' (Nat.le_refl _) rfl).drew)
  have R1 := Lib.hid (show Fr Nil w1 (w1.alloc (.cells #[] 28)).drew by (repeat' (with_reducible first | refine Fr.setCell ?_ (fun hlt => absurd hlt (by dsimp only; omega)) _ | refine Fr.alloc ?_ _ | refine Fr.drewN ?_ _ | refine Fr.drew ?_ | exact Fr.refl _ _)))
  have T1 := Lib.hid (Sl.fr HT.out R1.out)
  have B1 := Lib.hid (show w1.heap.size ≤ ((w1.alloc (.cells #[] 28)).drew).heap.size by simp <;> omega)
  have O2 := Lib.hid (show Own ((w1.alloc (.cells #[] 28)).alloc (.cells #[.int .i64 p.1, .int .i64 p.2] 28)).drew w1.heap.size (.slice (some ⟨w1.heap.size, 0, none⟩) 0 0) [] from ((Own.made' (Nat.le_refl _) rfl).alloc _).drew)
  have R2 := Lib.hid (show Fr Nil w1 ((w1.alloc (.cells #[] 28)).alloc (.cells #[.int .i64 p.1, .int .i64 p.2] 28)).drew by (repeat' (with_reducible first | refine Fr.setCell ?_ (fun hlt => absurd hlt (by dsimp only; omega)) _ | refine Fr.alloc ?_ _ | refine Fr.drewN ?_ _ | refine Fr.drew ?_ | exact Fr.refl _ _)))
  have T2 := Lib.hid (Sl.fr HT.out R2.out)
  have B2 := Lib.hid (show w1.heap.size ≤ (((w1.alloc (.cells #[] 28)).alloc (.cells #[.int .i64 p.1, .int .i64 p.2] 28)).drew).heap.size by simp <;> omega)
  have O3 := Lib.hid (show Own ((w1.alloc (.cells #[.int .i64 p.1, .int .i64 p.2] 28)).alloc (.cells #[] 28)).drew w1.heap.size (.slice (some ⟨w1.heap.size + 1, 0, none⟩) 0 0) [] from (Own.made' (by simp) (by simp)).drew)
  have R3 := Lib.hid (show Fr Nil w1 ((w1.alloc (.cells #[.int .i64 p.1, .int .i64 p.2] 28)).alloc (.cells #[] 28)).drew by (repeat' (with_reducible first | refine Fr.setCell ?_ (fun hlt => absurd hlt (by dsimp only; omega)) _ | refine Fr.alloc ?_ _ | refine Fr.drewN ?_ _ | refine Fr.drew ?_ | exact Fr.refl _ _)))
  have T3 := Lib.hid (Sl.fr HT.out R3.out)
  have B3 := Lib.hid (show w1.heap.size ≤ (((w1.alloc (.cells #[.int .i64 p.1, .int .i64 p.2] 28)).alloc (.cells #[] 28)).drew).heap.size by simp <;> omega)
  have S2 := Lib.hid (show Sl ((w1.alloc (.cells #[] 28)).alloc (.cells #[.int .i64 p.1, .int .i64 p.2] 28)).drew (.slice (some ⟨w1.heap.size + 1, 0, none⟩) 1 1) [p] from Sl.drew (one_sl' p (by simp)))
  have S3 := Lib.hid (show Sl ((w1.alloc (.cells #[.int .i64 p.1, .int .i64 p.2] 28)).alloc (.cells #[] 28)).drew (.slice (some ⟨w1.heap.size, 0, none⟩) 1 1) [p] from Sl.drew (Sl.alloc (one_sl' p rfl) _))
  have LL := Lib.hid (show (([] : List Pr).length + (l.take k).length ≤ 100000) ∧ (([] ++ l.take k).length + [p].length ≤ 100000) ∧ (([] ++ l.take k ++ [p]).length + (l.drop k).length ≤ 100000) by simp; omega)
  go_wp2_with fail
  go_region_held3 (fun w' => w'.cell? ⟨w.heap.size, 0, none⟩ = some (.int .i64 p.1) ∧ w'.cell? ⟨w.heap.size, 1, none⟩ = some (.int .i64 p.2)) (first | (go_keep; done))
    (first | (rw [if_pos (by rfl)]; refine wp_app (.tmp 10) (.tmp 13) rfl w1.heap.size (.slice (some ⟨w1.heap.size, 0, none⟩) 0 0) (.slice (some ⟨g, o, none⟩) k cap) [] (l.take k) rfl O1.out rfl T1.out LL.out.1 B1.out ?_; intro v14 w14 h14 f14 b14 n14; have F14 : Fr Nil w1 w14 := Fr.then (R1.out) f14 (fun i hi hlt => by have := (b14 i hi).1; omega); obtain ⟨y14, z14, _, _⟩ := (HB.out.fr F14 id).c2) | (rw [if_pos (by rfl)]; refine wp_app (.tmp 10) (.tmp 13) rfl w1.heap.size (.slice (some ⟨w1.heap.size, 0, none⟩) 0 0) (.slice (some ⟨g, o, none⟩) k cap) [] (l.take k) rfl O2.out rfl T2.out LL.out.1 B2.out ?_; intro v14 w14 h14 f14 b14 n14; have F14 : Fr Nil w1 w14 := Fr.then (R2.out) f14 (fun i hi hlt => by have := (b14 i hi).1; omega); obtain ⟨y14, z14, _, _⟩ := (HB.out.fr F14 id).c2; have s16 := Sl.frS S2.out f14 (fun g hg hh => by have h1 := Option.some.inj hg; have h2 := Option.some.inj hh; dsimp only at h1 h2; omega)) | (rw [if_pos (by rfl)]; refine wp_app (.tmp 10) (.tmp 13) rfl w1.heap.size (.slice (some ⟨w1.heap.size + 1, 0, none⟩) 0 0) (.slice (some ⟨g, o, none⟩) k cap) [] (l.take k) rfl O3.out rfl T3.out LL.out.1 B3.out ?_; intro v14 w14 h14 f14 b14 n14; have F14 : Fr Nil w1 w14 := Fr.then (R3.out) f14 (fun i hi hlt => by have := (b14 i hi).1; omega); obtain ⟨y14, z14, _, _⟩ := (HB.out.fr F14 id).c2; have s16 := Sl.frS S3.out f14 (fun g hg hh => by have h1 := Option.some.inj hg; have h2 := Option.some.inj hh; dsimp only at h1 h2; omega)) | (rw [if_pos (by rfl)]; refine wp_app (.tmp 14) (.tmp 16) rfl w1.heap.size v14 _ ([] ++ l.take k) [p] rfl h14 rfl s16 LL.out.2.1 F14.size ?_; intro v17 w17 h17 f17 b17 n17; have F17 : Fr Nil w1 w17 := Fr.then (F14) f17 (fun i hi hlt => by have := (b17 i hi).1; omega); obtain ⟨y17, z17, _, _⟩ := (HB.out.fr F17 id).c2) | (rw [if_pos (by rfl)]; refine wp_app (.tmp 14) (.tmp 16) rfl w1.heap.size v14 _ ([] ++ l.take k) [p] rfl (Own.alloc h14 _) rfl (one_sl' p rfl) LL.out.2.1 (F14.alloc _).size ?_; intro v17 w17 h17 f17 b17 n17; have F17 : Fr Nil w1 w17 := Fr.then (F14.alloc _) f17 (fun i hi hlt => by have := (b17 i hi).1; omega); obtain ⟨y17, z17, _, _⟩ := (HB.out.fr F17 id).c2) | (rw [if_pos (by rfl)]; refine wp_app (.tmp 17) (.tmp 20) rfl w1.heap.size v17 _ ([] ++ l.take k ++ [p]) (l.drop k) rfl h17 rfl (Sl.fr HD.out F17) LL.out.2.2 F17.size ?_; intro v21 w21 h21 f21 b21 n21; have F21 : Fr Nil w1 w21 := Fr.then (F17) f21 (fun i hi hlt => by have := (b21 i hi).1; omega); obtain ⟨y21, z21, _, _⟩ := (HB.out.fr F21 id).c2))
  all_goals go_wp2
  all_goals
    go_ret
    exact ⟨_, rfl, G1.out.trans F21, by have := h21.weaken (b' := w.heap.size) G1.out.size; simpa using this, fun e => by have h1 := n14 (n17 (n21 e)); cases h1⟩

theorem put_any (l : List Pr) (p : Pr) (v : Value) (w : World) (hl : l.length ≤ 1000) (hv : Sl w v l) (hn : v ≠ .slice none 0 0) :
    Calls Try.prog 22 #[v, .agg #[.int .i64 p.1, .int .i64 p.2]] w fun e w' => ∃ u, e = .returned u ∧ Fr Nil w w' ∧ Own w' w.heap.size u (ins l p) ∧ u ≠ .slice none 0 0 := by
  rcases hv with ⟨rfl, rfl⟩ | ⟨g, o, cap, rfl, hc, ha, hr⟩
  · exact absurd rfl hn
  · exact put_some l p g o cap w hl hc ha hr
end Go.Proofs.Ytokgeegbeagblaa.SortE
