/- Chapter 8: the walks of pick, Nth, Median, with any comparison; the two comparisons of the laws. -/
import Derived.Test.YtokgeegbeagblaaGenI
namespace Go.Proofs.Ytokgeegbeagblaa.GenJ
open Go.RowKit Base SortA SortB SortC SortD SortE SortG SortI SortK PickA GenA GenC GenD GenE GenF GenG GenH GenI
set_option linter.unusedVariables false
set_option linter.unusedSimpArgs false

section
variable {F : FuncId} {first : Array Value} {S : Nat → Prop} {J : Nat → World → Prop}
theorem nth_any (L : Ls F first S J) (n : Nat) (l : List Pr) (k : Nat) (v : Value) (kk : Nat) (w : World) (hl : l.length ≤ 200) (hk : k < l.length) (hb : n + kk + nb l.length ≤ 50000) (hv : Slx S w v l) (hc : Cnt J n kk w) :
    Calls Try.prog 26 #[v, .int .i64 k, lessG F first] w fun e w' => ∃ x y : Pr, e = .returned (.agg #[.int .i64 x.1, .int .i64 x.2]) ∧ (isort l)[k]? = some y ∧ y.1 = x.1 ∧ Fr S w w' ∧ Cnt J n (kk + nb l.length) w' :=
  nth_n L n l.length l k v kk w (Nat.le_refl _) hl hk hb hv hc

set_option maxRecDepth 100000 in
set_option maxHeartbeats 4000000 in
theorem pick_ok (L : Ls F first S J) (n : Nat) (l : List Pr) (k : Nat) (v : Value) (kk : Nat) (w : World) (hl : l.length ≤ 200) (hk : k < l.length) (hb : n + kk + nb l.length ≤ 50000) (hv : Slx S w v l) (hc : Cnt J n kk w) :
    Calls Try.prog 21 #[v, .int .i64 k, lessG F first] w fun e w' => ∃ x : Pr, e = .returned (.tuple #[.agg #[.int .i64 x.1, .int .i64 x.2], .bool true]) ∧ (isort l)[k]? = some x ∧ Fr S w w' ∧ Cnt J n (kk + nb l.length + 2 * l.length) w' := by
  have HNS := Lib.hid (show ∀ i, w.heap.size ≤ i → ¬ S i from fun i hi => hc.new L hi)
  have HS := Lib.hid hv
  have HB := Lib.hid (Bk.new w 28 #[.int .i64 0, .int .i64 0])
  have HN := Lib.hid (nth_any L n l k v kk _ hl hk hb (hv.nil ((Fr.refl Nil w).alloc (.cells #[.int .i64 0, .int .i64 0] 28))) (hc.nil L ((Fr.refl Nil w).alloc (.cells #[.int .i64 0, .int .i64 0] 28))))
  have KP := Lib.hid (fun p W h1 h2 => parts_any L n (kk + nb l.length) l p v W (by omega) (by omega) h1 h2)
  have HLEN := Lib.hid hl
  have HC := Lib.hid (fun x n (h : (isort l)[k]? = some x) (hx : x.1 = n) => PickC.cut_at h hx)
  have HL0 := Lib.hid L
  obtain ⟨A, c, rfl⟩ := Sl.shape hv.1
  have hk' : (k : Int) < l.length := by omega
  have hk0 : (0 : Int) ≤ k := by omega
  generalize isort l = s at *
  clear hv hl hb hc
  unfold lessG at *
  go_enter Try.func21, Try.ntmps21
  go_wp2_with fail
  refine HN.out.mono ?_
  rintro e w1 ⟨x, y, rfl, hy, hxy, hf1, hc1⟩
  obtain ⟨hlo, hmi⟩ := HC.out y x.1 hy hxy
  have hb := HB.out.fr hf1 (HNS.out _ (Nat.le_refl _))
  have F1 := Lib.hid (((Fr.refl S w).alloc _).trans hf1)
  have HB1 := Lib.hid hb
  have HC1 := Lib.hid (hc1.nil HL0.out ((Fr.refl Nil w1).alloc (.cells #[.int .i64 x.1, .int .i64 x.2] 28)))
  obtain ⟨x0, x1, _, _⟩ := (Bk.new w1 28 #[.int .i64 x.1, .int .i64 x.2]).c2
  clear hf1 hb hc1
  go_wp2_with fail
  refine (KP.out x _ ((HS.out.fr F1.out).nil ((Fr.refl Nil w1).alloc _)) HC1.out).mono ?_
  rintro e w2 ⟨a, b, cc, rfl, hf2, h3, hc2⟩
  have F2 := Lib.hid ((F1.out.alloc (.cells #[.int .i64 x.1, .int .i64 x.2] 28)).trans hf2)
  have HC2 := Lib.hid hc2
  have hb2 := (HB1.out.alloc (.cells #[.int .i64 x.1, .int .i64 x.2] 28)).fr hf2 (HNS.out _ (Nat.le_refl _))
  obtain ⟨b0, b1, b2, b3⟩ := hb2.c2
  obtain ⟨Aa, ca, rfl⟩ := Sl.shape h3.1.sl
  have hm := h3.2.1.sl
  rcases hm with ⟨rfl, h0⟩ | ⟨g, o, cap, rfl, hc, ha, hr⟩
  · rw [h0] at hmi; simp at hmi
  obtain ⟨c0, c1⟩ := hr _ y hmi
  have hjl := (List.getElem?_eq_some_iff.1 hmi).1
  have HY := Lib.hid hy
  obtain ⟨j, hj⟩ : ∃ j, k - (lo x.1 l).length = j := ⟨_, rfl⟩
  rw [hj] at hjl c0 c1
  have hje : (k : Int) - (lo x.1 l).length = j := by omega
  have hjl' : (j : Int) < (mi x.1 l).length := by omega
  have hw : wrap64 (j : Int) = j := by
    have h1 : (mi x.1 l).length ≤ l.length := List.length_filter_le _ _
    have h2 := HLEN.out
    exact PickC.wrap_small (by omega)
  have hj0 : (0 : Int) ≤ j := Int.natCast_nonneg j
  have HF := Lib.hid F2.out
  clear hr hc h3 hy hmi hf2 hj hjl hlo hxy hc2
  go_wp2_with fail
  have q0 := (hb2.put 0 (.int .i64 y.1)).cell 0
  have q1 := ((hb2.put 0 (.int .i64 y.1)).put 1 (.int .i64 y.2)).cell 1
  simp at q0 q1
  exact bodyPost_ret (v := .tuple #[.agg #[.int .i64 y.1, .int .i64 y.2], .bool true]) (by simp [results, Try.results21, go_sem, q0, q1]) rfl ⟨y, rfl, HY.out, fr_two (Fr.refl S w) HF.out _ _, cnt_two HL0.out HC2.out (HNS.out _ (Nat.le_refl _)) (by omega) _ _⟩

theorem pick_no (w : World) (A : Option Addr) (len c : Nat) (k : Int) (hk : k < 0 ∨ (len : Int) ≤ k) :
    Calls Try.prog 21 #[.slice A len c, .int .i64 k, lessG F first] w fun e w' => e = .returned (.tuple #[.agg #[.int .i64 0, .int .i64 0], .bool false]) ∧ Fr Nil w w' := by
  have HB := Bk.new w 28 #[.int .i64 0, .int .i64 0]
  obtain ⟨b0, b1, b2, b3⟩ := HB.c2
  unfold lessG
  rcases hk with hk | hk
  · go_enter Try.func21, Try.ntmps21
    go_wp2_with fail
    exact bodyPost_ret (v := .tuple #[.agg #[.int .i64 0, .int .i64 0], .bool false]) (by simp [results, Try.results21, go_sem]) rfl ⟨rfl, by (repeat' (with_reducible first | refine Fr.setCell ?_ (fun hlt => absurd hlt (by dsimp only; omega)) _ | refine Fr.alloc ?_ _ | refine Fr.drewN ?_ _ | refine Fr.drew ?_ | exact Fr.refl _ _))⟩
  · have hk0 : (0 : Int) ≤ k := by omega
    go_enter Try.func21, Try.ntmps21
    go_wp2_with fail
    exact bodyPost_ret (v := .tuple #[.agg #[.int .i64 0, .int .i64 0], .bool false]) (by simp [results, Try.results21, go_sem]) rfl ⟨rfl, by (repeat' (with_reducible first | refine Fr.setCell ?_ (fun hlt => absurd hlt (by dsimp only; omega)) _ | refine Fr.alloc ?_ _ | refine Fr.drewN ?_ _ | refine Fr.drew ?_ | exact Fr.refl _ _))⟩

set_option maxRecDepth 100000 in
theorem Nth_ok (L : Ls F first S J) (n : Nat) (l : List Pr) (k : Nat) (v : Value) (kk : Nat) (w : World) (hl : l.length ≤ 200) (hk : k < l.length) (hb : n + kk + nb l.length ≤ 50000) (hv : Slx S w v l) (hc : Cnt J n kk w) :
    Calls Try.prog 8 #[v, .int .i64 k, lessG F first] w fun e w' => ∃ x : Pr, e = .returned (.tuple #[.agg #[.int .i64 x.1, .int .i64 x.2], .bool true]) ∧ (isort l)[k]? = some x ∧ Fr S w w' ∧ Cnt J n (kk + nb l.length + 2 * l.length) w' := by
  have HNS := Lib.hid (show ∀ i, w.heap.size ≤ i → ¬ S i from fun i hi => hc.new L hi)
  have K := Lib.hid (pick_ok L n l k v kk _ hl hk hb (hv.nil ((Fr.refl Nil w).alloc (.cells #[.int .i64 0, .int .i64 0] 28))) (hc.nil L ((Fr.refl Nil w).alloc (.cells #[.int .i64 0, .int .i64 0] 28))))
  have HB := Lib.hid (Bk.new w 28 #[.int .i64 0, .int .i64 0])
  have HL0 := Lib.hid L
  obtain ⟨A, c, rfl⟩ := Sl.shape hv.1
  generalize isort l = s at *
  clear hv hb hc
  unfold lessG at *
  go_enter Try.func8, Try.ntmps8
  go_wp2_with fail
  refine K.out.mono ?_
  rintro e w1 ⟨x, rfl, hx, hf1, hc1⟩
  have hb := HB.out.fr hf1 (HNS.out _ (Nat.le_refl _))
  obtain ⟨b0, b1, b2, b3⟩ := hb.c2
  have HF1 := Lib.hid hf1
  have HC1 := Lib.hid hc1
  have HX := Lib.hid hx
  clear hf1 hc1 hx
  go_wp2_with fail
  have q0 := (hb.put 0 (.int .i64 x.1)).cell 0
  have q1 := ((hb.put 0 (.int .i64 x.1)).put 1 (.int .i64 x.2)).cell 1
  simp at q0 q1
  exact bodyPost_ret (v := .tuple #[.agg #[.int .i64 x.1, .int .i64 x.2], .bool true]) (by simp [results, Try.results8, go_sem, q0, q1]) rfl ⟨x, rfl, HX.out, fr_two ((Fr.refl S w).alloc _) HF1.out _ _, cnt_two HL0.out HC1.out (HNS.out _ (Nat.le_refl _)) (Nat.le_refl _) _ _⟩

set_option maxRecDepth 100000 in
theorem Median_ok (L : Ls F first S J) (n : Nat) (l : List Pr) (k : Nat) (v : Value) (kk : Nat) (w : World) (hl : l.length ≤ 200) (h0 : 0 < l.length) (hk : l.length / 2 = k) (hb : n + kk + nb l.length ≤ 50000) (hv : Slx S w v l) (hc : Cnt J n kk w) :
    Calls Try.prog 15 #[v, lessG F first] w fun e w' => ∃ x : Pr, e = .returned (.tuple #[.agg #[.int .i64 x.1, .int .i64 x.2], .bool true]) ∧ (isort l)[k]? = some x ∧ Fr S w w' ∧ Cnt J n (kk + nb l.length + 2 * l.length) w' := by
  have HNS := Lib.hid (show ∀ i, w.heap.size ≤ i → ¬ S i from fun i hi => hc.new L hi)
  have hk1 : k < l.length := by omega
  have hn2 : (l.length : Int) / 2 = (k : Int) := by omega
  have hn3 : (0 : Int) ≤ (l.length : Int) := Int.natCast_nonneg _
  have hn4 : (0 : Int) ≤ (k : Int) := Int.natCast_nonneg _
  have hn5 : wrap64 (k : Int) = k := PickC.wrap_small (by omega)
  have hn6 : (l.length : Int).tdiv 2 = (k : Int) := by rw [Int.tdiv_eq_ediv_of_nonneg hn3]; exact hn2
  have K := Lib.hid (pick_ok L n l k v kk _ hl hk1 hb (hv.nil ((Fr.refl Nil w).alloc (.cells #[.int .i64 0, .int .i64 0] 28))) (hc.nil L ((Fr.refl Nil w).alloc (.cells #[.int .i64 0, .int .i64 0] 28))))
  have HB := Lib.hid (Bk.new w 28 #[.int .i64 0, .int .i64 0])
  have HL0 := Lib.hid L
  obtain ⟨A, c, rfl⟩ := Sl.shape hv.1
  generalize isort l = s at *
  clear hv hb hc hk hk1 h0
  unfold lessG at *
  go_enter Try.func15, Try.ntmps15
  go_wp2_with fail
  refine K.out.mono ?_
  rintro e w1 ⟨x, rfl, hx, hf1, hc1⟩
  have hb := HB.out.fr hf1 (HNS.out _ (Nat.le_refl _))
  obtain ⟨b0, b1, b2, b3⟩ := hb.c2
  have HF1 := Lib.hid hf1
  have HC1 := Lib.hid hc1
  have HX := Lib.hid hx
  clear hf1 hc1 hx
  go_wp2_with fail
  have q0 := (hb.put 0 (.int .i64 x.1)).cell 0
  have q1 := ((hb.put 0 (.int .i64 x.1)).put 1 (.int .i64 x.2)).cell 1
  simp at q0 q1
  exact bodyPost_ret (v := .tuple #[.agg #[.int .i64 x.1, .int .i64 x.2], .bool true]) (by simp [results, Try.results15, go_sem, q0, q1]) rfl ⟨x, rfl, HX.out, fr_two ((Fr.refl S w).alloc _) HF1.out _ _, cnt_two HL0.out HC1.out (HNS.out _ (Nat.le_refl _)) (Nat.le_refl _) _ _⟩

theorem Nth_no (w : World) (A : Option Addr) (len c : Nat) (k : Int) (hk : k < 0 ∨ (len : Int) ≤ k) :
    Calls Try.prog 8 #[.slice A len c, .int .i64 k, lessG F first] w fun e w' => e = .returned (.tuple #[.agg #[.int .i64 0, .int .i64 0], .bool false]) ∧ Fr Nil w w' := by
  have K := Lib.hid (fun W => pick_no (F := F) (first := first) W A len c k hk)
  have HB := Lib.hid (Bk.new w 28 #[.int .i64 0, .int .i64 0])
  unfold lessG at *
  go_enter Try.func8, Try.ntmps8
  go_wp2_with fail
  refine (K.out _).mono ?_
  rintro e w1 ⟨rfl, hf1⟩
  have hb := HB.out.fr hf1 id
  obtain ⟨b0, b1, b2, b3⟩ := hb.c2
  have HF1 := Lib.hid hf1
  clear hf1
  go_wp2_with fail
  have q0 := (hb.put 0 (.int .i64 0)).cell 0
  have q1 := ((hb.put 0 (.int .i64 0)).put 1 (.int .i64 0)).cell 1
  simp at q0 q1
  exact bodyPost_ret (v := .tuple #[.agg #[.int .i64 0, .int .i64 0], .bool false]) (by simp [results, Try.results8, go_sem, q0, q1]) rfl ⟨rfl, fr_two ((Fr.refl Nil w).alloc _) HF1.out _ _⟩

theorem Median_no (w : World) (A : Option Addr) (len c : Nat) (h0 : len = 0) :
    Calls Try.prog 15 #[.slice A len c, lessG F first] w fun e w' => e = .returned (.tuple #[.agg #[.int .i64 0, .int .i64 0], .bool false]) ∧ Fr Nil w w' := by
  subst h0
  have K := Lib.hid (fun W => pick_no (F := F) (first := first) W A 0 c 0 (Or.inr (Int.le_refl _)))
  have HB := Lib.hid (Bk.new w 28 #[.int .i64 0, .int .i64 0])
  unfold lessG at *
  go_enter Try.func15, Try.ntmps15
  go_wp2_with fail
  refine (K.out _).mono ?_
  rintro e w1 ⟨rfl, hf1⟩
  have hb := HB.out.fr hf1 id
  obtain ⟨b0, b1, b2, b3⟩ := hb.c2
  have HF1 := Lib.hid hf1
  clear hf1
  go_wp2_with fail
  have q0 := (hb.put 0 (.int .i64 0)).cell 0
  have q1 := ((hb.put 0 (.int .i64 0)).put 1 (.int .i64 0)).cell 1
  simp at q0 q1
  exact bodyPost_ret (v := .tuple #[.agg #[.int .i64 0, .int .i64 0], .bool false]) (by simp [results, Try.results15, go_sem, q0, q1]) rfl ⟨rfl, fr_two ((Fr.refl Nil w).alloc _) HF1.out _ _⟩
end

/-- the plain comparison -/
theorem plain : Ls 14 #[] Nil (fun _ _ => True) where
  enters := fun _ _ => by simp [go_sem]
  call := fun n a b W _ _ => (less_any a b W).mono fun e W' ⟨h1, h2⟩ => ⟨h1, h2, trivial⟩
  keep := fun _ _ _ _ _ _ _ => trivial
  lt := fun _ _ _ _ h => h.elim
  cells := fun _ _ _ _ h => h.elim
theorem plain_slx {w : World} {v : Value} {l : List Pr} (h : Sl w v l) : Slx Nil w v l := ⟨h, fun _ _ h => h⟩

/-- how often the counter has counted -/
def Count (c : Nat) (n : Nat) (w : World) : Prop := Bk w c 26 #[.int .i64 n]
theorem counts_any (c n : Nat) (a b : Pr) (w : World) (hn : n ≤ 1000000) (hc : Count c n w) : Calls Try.prog 9 #[.pointer (some ⟨c, 0, none⟩), .agg #[.int .i64 a.1, .int .i64 a.2], .agg #[.int .i64 b.1, .int .i64 b.2]] w fun e w' => e = .returned (.bool (decide (a.1 < b.1))) ∧ Fr (fun k => k = c) w w' ∧ Count c (n + 1) w' := by
  obtain ⟨a1, a2⟩ := a
  obtain ⟨b1, b2⟩ := b
  have hb := hc
  unfold Count at hb
  obtain ⟨c0, c1⟩ := hb.c1
  have hlt := hb.lt
  have hn1 : (n : Int) + 1 ≤ 1000001 := by omega
  have hn0 : (0 : Int) ≤ n := Int.natCast_nonneg _
  have hne : ¬ c = w.heap.size := by omega
  have hne2 : ¬ c = w.heap.size + 1 := by omega
  have HC := Lib.hid hc
  clear hc hb
  go_enter Try.func9, Try.ntmps9
  go_wp2_with fail
  exact bodyPost_ret (v := .bool (decide (a1 < b1))) (by simp [results, Try.results9, go_sem]) rfl ⟨rfl, (((Fr.refl (fun k => k = c) w).setCell (p := ⟨c, 0, none⟩) (fun _ => rfl) _).alloc _).alloc _, (((show Bk w c _ _ from HC.out).put 0 (.int .i64 ((n : Int) + 1))).alloc _).alloc _⟩
theorem counting (c : Nat) : Ls 9 #[.pointer (some ⟨c, 0, none⟩)] (fun k => k = c) (Count c) where
  enters := fun _ _ => by simp [go_sem]
  call := fun n a b W hn h => counts_any c n a b W hn h
  keep := fun T n W W' h hf hT => Bk.fr h hf (fun t => hT c t rfl)
  lt := fun n W k h e => by have e' : k = c := e; rw [e']; exact Bk.lt h
  cells := fun n W k h e => by have e' : k = c := e; rw [e']; exact ⟨_, _, h⟩
end Go.Proofs.Ytokgeegbeagblaa.GenJ
