/- Chapter 5: the walk of the law TrapMust. -/
import Derived.Test.YtendhgnhncnabaaFiveI
import Derived.Laws.AppendOwnNone
import Derived.Deep.QuietTactic
import Derived.BigQuiet
namespace Go.Proofs.Ytendhgnhncnabaa.FiveJ
open Go.RowKit TrapA TrapB Base FiveA FiveB FiveC FiveD FiveE FiveF FiveI
set_option linter.unusedVariables false
set_option linter.unusedSimpArgs false

theorem Fr.at {S : Nat → Prop} {w w' : World} {p : Addr} {v : Value} (h : Fr S w w') (hp : w.cell? p = some v) (hs : ¬ S p.block) : w'.cell? p = some v :=
  (h.cell (World.block_lt_of_cell? w p hp) hs).trans hp

theorem enters_take : Enters 14 := fun args w => by simp [go_sem]
theorem enters_index : Enters 15 := fun args w => by simp [go_sem]

/-- what a must has, as m.take leaves it -/
theorem catch_take {g : Nat} {v c : Int} {sl x : Value} {w : World} (hb : Bk w g 39 #[.int .i64 v, .int .i64 c, sl, x, .int .i64 v]) :
    Calls Try.prog 10 #[.func (.func 14) #[.pointer (some ⟨g, 0, none⟩)] #[]] w fun e w' => e = .returned (.tuple #[.agg #[.int .i64 0, .int .i64 c], .bool (c != 0)]) ∧ Fr (· = g) w w' ∧ Bk w' g 39 #[.int .i64 v, .int .i64 c, sl, x, .int .i64 v] := by
  have hQ : ∀ y z, Below w.heap.size y z → Bk y g 39 #[.int .i64 v, .int .i64 c, sl, x, .int .i64 v] → Bk z g 39 #[.int .i64 v, .int .i64 c, sl, x, .int .i64 v] := fun y z h hq => hq.below h hb.lt
  have hS : ∀ k, k = g → k < w.heap.size := fun k hk => by rw [hk]; exact hb.lt
  by_cases hc : c = 0
  · subst hc
    exact Catch_ret hS hQ enters_take fun W hW => take_ok g v sl x _ W (hb.fr hW id)
  · have hc' : (c != 0) = true := by simpa using hc
    rw [hc']
    exact Catch_fault hS hQ enters_take fun W hW => (take_bad g v c hc' sl x _ W (hb.fr hW id)).mono fun e w' ⟨he, hf⟩ => ⟨he, hf.of_nil, (hb.fr hW id).fr hf id⟩

theorem catch_index_ok {g n cap : Nat} {a : Addr} {i y : Int} {v c o : Value} {w : World} (hb : Bk w g 39 #[v, c, .slice (some a) n cap, .int .i64 i, o]) (h0 : 0 ≤ i) (hi : i < n) (hn : n ≤ 50) (hc : w.cell? (a.add i.toNat) = some (.int .i64 y)) (hag : a.block ≠ g) :
    Calls Try.prog 10 #[.func (.func 15) #[.pointer (some ⟨g, 0, none⟩)] #[]] w fun e w' => e = .returned (.tuple #[.agg #[.int .i64 0, .int .i64 0], .bool false]) ∧ Fr (· = g) w w' ∧ Bk w' g 39 #[v, c, .slice (some a) n cap, .int .i64 i, .int .i64 y] :=
  Catch_ret (fun k hk => by rw [hk]; exact hb.lt) (fun y z h hq => hq.below h hb.lt) enters_index fun W hW => index_ok g n cap a i y v c o W (hb.fr hW id) h0 hi hn (Fr.at hW hc id) hag

theorem catch_index_bad {g n cap : Nat} {A : Option Addr} {i : Int} {v c o : Value} {w : World} (hb : Bk w g 39 #[v, c, .slice A n cap, .int .i64 i, o]) (hi : i < 0 ∨ n ≤ i) (hn : n ≤ 50) :
    Calls Try.prog 10 #[.func (.func 15) #[.pointer (some ⟨g, 0, none⟩)] #[]] w fun e w' => e = .returned (.tuple #[.agg #[.int .i64 0, .int .i64 1], .bool true]) ∧ Fr (· = g) w w' ∧ Bk w' g 39 #[v, c, .slice A n cap, .int .i64 i, o] :=
  Catch_fault (fun k hk => by rw [hk]; exact hb.lt) (fun y z h hq => hq.below h hb.lt) enters_index fun W hW => (index_bad g n cap A i v c o W (hb.fr hW id) hi hn).mono fun e w' ⟨he, hf⟩ => ⟨he, hf.of_nil, (hb.fr hW id).fr hf id⟩

theorem news_in {M : List Int} {a : Addr} {w : World} {o : Obj} (h : ∀ (i : Nat) (n : Int), M[i]? = some n → w.cell? (a.add i) = some (.int .i64 n)) : ∀ (j : Nat) (u : Value), (M.map (Value.int .i64))[j]? = some u → (w.alloc o).cell? (a.add j) = some u := by
  intro j u hu
  rw [List.getElem?_map] at hu
  obtain ⟨n, hn, rfl⟩ := Option.map_eq_some_iff.1 hu
  exact Fr.at (S := Nil) ((Fr.refl Nil w).alloc o) (h j n hn) id

theorem ints_form {w : World} {v : Value} {base n : Nat} {M : List Int} (h : w.ownsRow base 3 1 v n (M.map (Value.int .i64))) (hn : v ≠ .slice none 0 0) :
    ∃ b cap, v = .slice (some ⟨b, 0, none⟩) n cap ∧ base ≤ b ∧ b < w.heap.size ∧ (∀ (i : Nat) (k : Int), M[i]? = some k → w.cell? ((⟨b, 0, none⟩ : Addr).add i) = some (.int .i64 k)) ∧ ∃ cur, Bk w b 3 cur := by
  rcases h.2 with ⟨rfl, rfl⟩ | ⟨g, cap, cur, rfl, hb, hg, h1, h2, h3, h4⟩
  · exact absurd rfl hn
  · refine ⟨g, cap, rfl, hb, lt_of_block hg, fun i k hk => ?_, cur, hg⟩
    exact h.cells (g := g) rfl i (.int .i64 k) (by rw [List.getElem?_map, hk]; rfl)

set_option maxHeartbeats 1000000 in
theorem must_walk (v c : Int) (L : List Int) (a : Addr) (cap : Nat) (w : World) (hl : L.length ≤ maxLen) (hcap : L.length ≤ cap) (hw : ∀ (i : Nat) (n : Int), L[i]? = some n → w.cell? (a.add i) = some (.int .i64 n)) :
    Calls Try.prog 5 #[.int .i64 v, .int .i64 c, .slice (some a) L.length cap] w fun e w' => e = .returned (.bool true) ∧ Fr Nil w w' := by
  have hmf := mf
  have hl' : L.length ≤ 9223372036854775807 := hl
  clear hl
  obtain ⟨i0, hi, hz0, hz1, hz2⟩ := info_parts Try.info_int
  obtain ⟨M, hM, hM1, hM2, hM3⟩ : ∃ M : List Int, M.length ≤ 50 ∧ (50 < L.length → M.length = 50) ∧ (L.length ≤ 50 → M.length = L.length) ∧ ∀ (i : Nat) (n : Int), M[i]? = some n → w.cell? (a.add i) = some (.int .i64 n) := by
    refine ⟨L.take 50, by simp; omega, by simp; omega, by simp; omega, fun i n h => ?_⟩
    rw [List.getElem?_take] at h
    split at h
    · exact hw i n h
    · cases h
  have HW := Lib.hid hM3
  clear hw hM3
  have hown := World.ownsRow_made w #[] 0 (e := 3) (size := 1) (Nat.le_refl _) (Nat.zero_le _) rfl
  rcases Nat.lt_or_ge 50 L.length with h50 | h50
  · have HN := Lib.hid (hM1 h50)
    clear hM1 hM2
    go_enter Try.func5, Try.ntmps5
    go_wp2_with (at_builtin; go_must (refine wpList_append_own _ rfl (.tmp 19) (.tmp 20) 36 rfl w.heap.size 3 i0 _ 1 8 Try.underlying36 hi hz0 hz1 hz2 rfl (by decide) (.slice (some ⟨w.heap.size, 0, none⟩) 0 0) 0 [] rfl hown a 50 cap (M.map (Value.int .i64)) rfl (by simp [HN.out]) (news_in HW.out) (by intro u hu; obtain ⟨n, _, rfl⟩ := List.mem_map.1 hu; rfl) (by unfold maxLen; omega) (by omega) (by simp) ?_); intro v' w1 hown' hgrow hnil; simp only [Nat.zero_add, List.nil_append] at hown'; obtain ⟨b, cap', rfl, hbb, hblt, hcells, cur, hbk⟩ := ints_form hown' (fun h => by have := (hnil.1 h).1; simp at this); have HCC := Lib.hid hcells; clear hcells)
    have hf1 : Fr Nil w w1 := ((Fr.refl Nil w).alloc _).append hgrow fun g hg => by simp [Value.ownBlock] at hg; omega
    refine (lives_any _).mono ?_
    rintro e w2 ⟨rfl, hf2⟩
    have hb2 := (Bk.new w1 _ _).fr hf2 id
    have HTK := fun (v c : Int) sl x hb => Lib.hid (catch_take (g := w1.heap.size) (v := v) (c := c) (sl := sl) (x := x) (w := w2) hb)
    have HT := HTK _ _ _ _ hb2
    clear HTK
    have hf02 : Fr Nil w w2 := (hf1.alloc _).trans hf2
    have HC2 := Lib.hid fun i k h => Fr.at (S := Nil) (((Fr.refl Nil w1).alloc _).trans hf2) (HCC.out i k h) id
    have hb2l := hb2.lt
    have hsz := hf1.size
    clear hf1 hf2 hgrow hnil hown' hb2
    have hcs : (c = 0) ∨ (c != 0) = true := by
      by_cases h : c = 0
      · exact Or.inl h
      · exact Or.inr (by simpa using h)
    rcases hcs with rfl | hc
    all_goals
      go_wp2_with fail
      refine HT.out.mono ?_
      rintro e w3 ⟨rfl, hf3, hb3⟩
      obtain ⟨c0, c1, c2, c3, c4, f0, f1, f2, f3, f4⟩ := hb3.c5
      have hlt3 := hb3.lt
      have hf03 : Fr Nil w w3 := hf02.then hf3 fun i h hi => absurd hi (by omega)
      have HB := Lib.hid hb3
      have HC3 := Lib.hid fun i k h => Fr.at hf3 (HC2.out i k h) (by rw [Base.block_add]; exact fun e => absurd e (Nat.ne_of_lt hblt))
      clear HT hf3 hb3
      have hvs : (v < 0) ∨ ((50 : Int) ≤ v ∧ 0 ≤ v) ∨ (0 ≤ v ∧ v < (50 : Int)) := by omega
      rcases hvs with hv | ⟨hv, hv'⟩ | ⟨hv0, hv1⟩
      · have HI := fun o => catch_index_bad (HB.out.alloc o) (Or.inl hv) (by omega)
        have HH := Lib.hid HI
        clear HI
        go_wp2_with fail
        refine (HH.out _).mono ?_
        rintro e w4 ⟨rfl, hf4, hb4⟩
        obtain ⟨d0, d1, d2, d3, d4, _, _, _, _, _⟩ := hb4.c5
        have hlt4 := hb4.lt
        have HF := Lib.hid ((hf03.alloc _).then hf4 fun i h hi => absurd hi (by omega))
        clear HH hf4 hb4
        go_wp2_with fail
        go_ret
        exact ⟨rfl, HF.out.alloc _⟩
      · have HI := fun o => catch_index_bad (HB.out.alloc o) (Or.inr hv) (by omega)
        have HH := Lib.hid HI
        clear HI
        go_wp2_with fail
        refine (HH.out _).mono ?_
        rintro e w4 ⟨rfl, hf4, hb4⟩
        obtain ⟨d0, d1, d2, d3, d4, _, _, _, _, _⟩ := hb4.c5
        have hlt4 := hb4.lt
        have HF := Lib.hid ((hf03.alloc _).then hf4 fun i h hi => absurd hi (by omega))
        clear HH hf4 hb4
        go_wp2_with fail
        go_ret
        exact ⟨rfl, HF.out.alloc _⟩
      · obtain ⟨k, rfl⟩ := Int.eq_ofNat_of_zero_le hv0
        obtain ⟨y, hy⟩ : ∃ y, M[k]? = some y := ⟨M[k]'(by rw [HN.out]; omega), List.getElem?_eq_getElem _⟩
        have HI := fun o => catch_index_ok (y := y) (HB.out.alloc o) hv0 hv1 (by omega) (by rw [Int.toNat_natCast]; exact Fr.at (S := Nil) ((Fr.refl Nil w3).alloc o) (HC3.out k y hy) id) (Nat.ne_of_lt hblt)
        have HH := Lib.hid HI
        have HY := Lib.hid hy
        clear HI hy
        go_wp2_with fail
        refine (HH.out _).mono ?_
        rintro e w4 ⟨rfl, hf4, hb4⟩
        obtain ⟨d0, d1, d2, d3, d4, _, _, _, _, _⟩ := hb4.c5
        have hlt4 := hb4.lt
        have HF := Lib.hid ((hf03.alloc _).then hf4 fun i h hi => absurd hi (by omega))
        have haz := fun o => Fr.at (S := Nil) (HF.out.alloc o) (HW.out k y HY.out) id
        have hkn : (k : Int) < 50 := by omega
        clear HH hf4 hb4
        go_wp2_with fail
        go_quiet (fail)
        go_wp2
        go_ret
        exact ⟨rfl, (HF.out.alloc _).drewN _⟩
  · have HN := Lib.hid (hM2 h50)
    clear hM1 hM2
    go_enter Try.func5, Try.ntmps5
    go_wp2_with (at_builtin; go_must (refine wpList_append_own _ rfl (.tmp 19) (.tmp 20) 36 rfl w.heap.size 3 i0 _ 1 8 Try.underlying36 hi hz0 hz1 hz2 rfl (by decide) (.slice (some ⟨w.heap.size, 0, none⟩) 0 0) 0 [] rfl hown a L.length cap (M.map (Value.int .i64)) rfl (by simp [HN.out]) (news_in HW.out) (by intro u hu; obtain ⟨n, _, rfl⟩ := List.mem_map.1 hu; rfl) (by unfold maxLen; omega) (by omega) (by simp) ?_); intro v' w1 hown' hgrow hnil; simp only [Nat.zero_add, List.nil_append] at hown'; obtain ⟨b, cap', rfl, hbb, hblt, hcells, cur, hbk⟩ := ints_form hown' (fun h => by have := (hnil.1 h).1; simp at this); have HCC := Lib.hid hcells; clear hcells)
    have hf1 : Fr Nil w w1 := ((Fr.refl Nil w).alloc _).append hgrow fun g hg => by simp [Value.ownBlock] at hg; omega
    refine (lives_any _).mono ?_
    rintro e w2 ⟨rfl, hf2⟩
    have hb2 := (Bk.new w1 _ _).fr hf2 id
    have HTK := fun (v c : Int) sl x hb => Lib.hid (catch_take (g := w1.heap.size) (v := v) (c := c) (sl := sl) (x := x) (w := w2) hb)
    have HT := HTK _ _ _ _ hb2
    clear HTK
    have hf02 : Fr Nil w w2 := (hf1.alloc _).trans hf2
    have HC2 := Lib.hid fun i k h => Fr.at (S := Nil) (((Fr.refl Nil w1).alloc _).trans hf2) (HCC.out i k h) id
    have hb2l := hb2.lt
    have hsz := hf1.size
    clear hf1 hf2 hgrow hnil hown' hb2
    have hcs : (c = 0) ∨ (c != 0) = true := by
      by_cases h : c = 0
      · exact Or.inl h
      · exact Or.inr (by simpa using h)
    rcases hcs with rfl | hc
    all_goals
      go_wp2_with fail
      refine HT.out.mono ?_
      rintro e w3 ⟨rfl, hf3, hb3⟩
      obtain ⟨c0, c1, c2, c3, c4, f0, f1, f2, f3, f4⟩ := hb3.c5
      have hlt3 := hb3.lt
      have hf03 : Fr Nil w w3 := hf02.then hf3 fun i h hi => absurd hi (by omega)
      have HB := Lib.hid hb3
      have HC3 := Lib.hid fun i k h => Fr.at hf3 (HC2.out i k h) (by rw [Base.block_add]; exact fun e => absurd e (Nat.ne_of_lt hblt))
      clear HT hf3 hb3
      have hvs : (v < 0) ∨ ((L.length : Int) ≤ v ∧ 0 ≤ v) ∨ (0 ≤ v ∧ v < (L.length : Int)) := by omega
      rcases hvs with hv | ⟨hv, hv'⟩ | ⟨hv0, hv1⟩
      · have HI := fun o => catch_index_bad (HB.out.alloc o) (Or.inl hv) (by omega)
        have HH := Lib.hid HI
        clear HI
        go_wp2_with fail
        refine (HH.out _).mono ?_
        rintro e w4 ⟨rfl, hf4, hb4⟩
        obtain ⟨d0, d1, d2, d3, d4, _, _, _, _, _⟩ := hb4.c5
        have hlt4 := hb4.lt
        have HF := Lib.hid ((hf03.alloc _).then hf4 fun i h hi => absurd hi (by omega))
        clear HH hf4 hb4
        go_wp2_with fail
        go_ret
        exact ⟨rfl, HF.out.alloc _⟩
      · have HI := fun o => catch_index_bad (HB.out.alloc o) (Or.inr hv) (by omega)
        have HH := Lib.hid HI
        clear HI
        go_wp2_with fail
        refine (HH.out _).mono ?_
        rintro e w4 ⟨rfl, hf4, hb4⟩
        obtain ⟨d0, d1, d2, d3, d4, _, _, _, _, _⟩ := hb4.c5
        have hlt4 := hb4.lt
        have HF := Lib.hid ((hf03.alloc _).then hf4 fun i h hi => absurd hi (by omega))
        clear HH hf4 hb4
        go_wp2_with fail
        go_ret
        exact ⟨rfl, HF.out.alloc _⟩
      · obtain ⟨k, rfl⟩ := Int.eq_ofNat_of_zero_le hv0
        obtain ⟨y, hy⟩ : ∃ y, M[k]? = some y := ⟨M[k]'(by rw [HN.out]; omega), List.getElem?_eq_getElem _⟩
        have HI := fun o => catch_index_ok (y := y) (HB.out.alloc o) hv0 hv1 (by omega) (by rw [Int.toNat_natCast]; exact Fr.at (S := Nil) ((Fr.refl Nil w3).alloc o) (HC3.out k y hy) id) (Nat.ne_of_lt hblt)
        have HH := Lib.hid HI
        have HY := Lib.hid hy
        clear HI hy
        go_wp2_with fail
        refine (HH.out _).mono ?_
        rintro e w4 ⟨rfl, hf4, hb4⟩
        obtain ⟨d0, d1, d2, d3, d4, _, _, _, _, _⟩ := hb4.c5
        have hlt4 := hb4.lt
        have HF := Lib.hid ((hf03.alloc _).then hf4 fun i h hi => absurd hi (by omega))
        have haz := fun o => Fr.at (S := Nil) (HF.out.alloc o) (HW.out k y HY.out) id
        have hkn : (k : Int) < 50 := by omega
        clear HH hf4 hb4
        go_wp2_with fail
        go_quiet (fail)
        go_wp2
        go_ret
        exact ⟨rfl, (HF.out.alloc _).drewN _⟩
end Go.Proofs.Ytendhgnhncnabaa.FiveJ
