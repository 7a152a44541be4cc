/- Chapter 8: the walks of sort and Sort, with any comparison. -/
import Derived.Test.YtokgeegbeagblaaGenC
namespace Go.Proofs.Ytokgeegbeagblaa.GenD
open Go.RowKit Base SortA SortB SortC SortD SortE SortG SortI SortJ SortK Quiet PickA GenA GenB GenC
set_option linter.unusedVariables false
set_option linter.unusedSimpArgs false

/-- how often a sort compares at most -/
def sc (n : Nat) : Nat := if n ≤ 8 then tri n else sc (n / 2) + sc (n - n / 2) + n
termination_by n
decreasing_by all_goals omega
theorem sc_small {n : Nat} (h : n ≤ 8) : sc n = tri n := by rw [sc, if_pos h]
theorem sc_big {n m : Nat} (h : ¬ n ≤ 8) (hm : n / 2 = m) : sc n = sc m + sc (n - m) + n := by rw [sc, if_neg h, hm]

section
variable {F : FuncId} {first : Array Value} {S : Nat → Prop} {J : Nat → World → Prop}
/-- what is new lies apart from what the comparison may turn -/
theorem slx_new (L : Ls F first S J) {n k : Nat} {w w' : World} {u : Value} {l : List Pr} (hc : Cnt J n k w) (h : Sl w' u l) (hu : ∀ g, u.ownBlock = some g → w.heap.size ≤ g) : Slx S w' u l :=
  ⟨h, fun g hg => hc.new L (hu g hg)⟩
theorem by_any (L : Ls F first S J) (n k : Nat) (l : List Pr) (v : Value) (w : World) (hl : l.length ≤ 200) (hn : n + k ≤ 100000) (hv : Sl w v l) (hJ : Cnt J n k w) :
    Calls Try.prog 30 #[v, lessG F first] w fun e w' => ∃ u, e = .returned u ∧ Fr S w w' ∧ Slx S w' u (isort l) ∧ (∀ g, u.ownBlock = some g → w.heap.size ≤ g) ∧ Cnt J n (k + tri l.length) w' := by
  obtain ⟨m, hm, hj⟩ := hJ
  rcases hv with ⟨rfl, rfl⟩ | ⟨g, o, cap, rfl, h⟩
  · exact (by_none L w).mono fun e w' ⟨he, hf⟩ => ⟨_, he, hf.of_nil, ⟨Or.inl ⟨rfl, rfl⟩, fun g hg => by cases hg⟩, fun g hg => (by cases hg), m, by omega, L.nil hj hf⟩
  · exact (by_some L m l g o cap w hl (by omega) (Or.inr ⟨g, o, cap, rfl, h⟩) hj).mono fun e w' ⟨u, h1, h2, h3, h4, h5⟩ => ⟨u, h1, h2, slx_new L (Cnt.zero hj) h3 h4, h4, h5.add hm⟩
theorem merge_cnt (L : Ls F first S J) (n k : Nat) (a b : List Pr) (va vb : Value) (w : World) (hla : a.length ≤ 1000) (hlb : b.length ≤ 1000) (hn : n + k ≤ 100000) (hva : Slx S w va a) (hvb : Slx S w vb b) (hJ : Cnt J n k w) :
    Calls Try.prog 31 #[va, vb, lessG F first] w fun e w' => ∃ u, e = .returned u ∧ Fr S w w' ∧ Slx S w' u (mrg a b) ∧ (∀ g, u.ownBlock = some g → w.heap.size ≤ g) ∧ Cnt J n (k + (a.length + b.length)) w' := by
  obtain ⟨m, hm, hj⟩ := hJ
  exact (merge_any L m a b va vb w hla hlb (by omega) hva hvb hj).mono fun e w' ⟨u, h1, h2, h3, h4, h5⟩ => ⟨u, h1, h2, slx_new L (Cnt.zero hj) h3.sl (fun g hg => (Own.lt h3 g hg).1), fun g hg => (Own.lt h3 g hg).1, h5.add hm⟩

set_option maxRecDepth 100000 in
set_option maxHeartbeats 4000000 in
theorem sort_n (L : Ls F first S J) (n : Nat) (N : Nat) : ∀ (l : List Pr) (v : Value) (k : Nat) (w : World), l.length ≤ N → l.length ≤ 500 → n + k + sc l.length ≤ 100000 → Slx S w v l → Cnt J n k w →
    Calls Try.prog 28 #[v, lessG F first] w fun e w' => ∃ u, e = .returned u ∧ Fr S w w' ∧ Slx S w' u (isort l) ∧ (∀ g, u.ownBlock = some g → w.heap.size ≤ g) ∧ Cnt J n (k + sc l.length) w' := by
  induction N using Nat.strongRecOn with
  | ind N ih =>
    intro l v k w hN hl hb hv hc
    by_cases h8 : l.length ≤ 8
    · have K := Lib.hid (by_any L n k l v w (by omega) (by omega) hv.1 hc)
      have SC := Lib.hid (sc_small h8)
      have h8' : (l.length : Int) ≤ 8 := by omega
      obtain ⟨A, c, rfl⟩ := Sl.shape hv.1
      clear hv ih hN hl h8 hb hc
      unfold lessG at *
      go_enter Try.func28, Try.ntmps28
      go_wp2_with fail
      refine K.out.mono ?_
      rintro e w1 ⟨u, rfl, hf1, hs1, hn1, hc1⟩
      have HN := Lib.hid hn1
      clear hn1
      go_wp2_with fail
      go_ret
      exact ⟨u, rfl, hf1, hs1, HN.out, by rw [SC.out]; exact hc1⟩
    · obtain ⟨hv, hvS⟩ := hv
      rcases hv with ⟨rfl, rfl⟩ | ⟨g, o, cap, rfl, hcp, ha, hr⟩
      · simp at h8
      have hgS := hvS g rfl
      obtain ⟨m, hm⟩ : ∃ m, l.length / 2 = m := ⟨_, rfl⟩
      have hme : (l.length : Int) / 2 = m := by omega
      have hml : m ≤ l.length := by omega
      have lt1 : (l.take m).length = m := by rw [List.length_take]; omega
      have lt2 : (l.drop m).length = l.length - m := by rw [List.length_drop]
      have hsc := sc_big h8 hm
      have KT := Lib.hid (show Slx S w (.slice (some ⟨g, o, none⟩) m cap) (l.take m) from ⟨head_sl m hcp hml ha hr, fun k hk => by cases hk; exact hgS⟩)
      have KD := Lib.hid (show Slx S w (.slice (some ⟨g, o + m * 2, none⟩) (l.length - m) (cap - m)) (l.drop m) from ⟨Or.inr ⟨g, o + m * 2, cap - m, by rw [lt2], by omega, ha, hr.drop m⟩, fun k hk => by cases hk; exact hgS⟩)
      have IT := Lib.hid (fun W y h1 h2 => ih m (by omega) (l.take m) y k W (by omega) (by omega) (by rw [lt1]; omega) h1 h2)
      have ID := Lib.hid (fun W y h1 h2 => ih (l.length - m) (by omega) (l.drop m) y (k + sc m) W (by omega) (by omega) (by rw [lt2]; omega) h1 h2)
      rw [lt1] at IT
      rw [lt2] at ID
      have IM := Lib.hid (fun W u1 u2 h1 h2 h3 => merge_cnt L n (k + sc m + sc (l.length - m)) (isort (l.take m)) (isort (l.drop m)) u1 u2 W (by rw [isort_len]; omega) (by rw [isort_len]; omega) (by omega) h1 h2 h3)
      have HC := Lib.hid hc
      have HL0 := Lib.hid L
      have HSC := Lib.hid (show k + sc m + sc (l.length - m) + ((isort (l.take m)).length + (isort (l.drop m)).length) = k + sc l.length by rw [isort_len, isort_len, lt1, lt2, hsc]; omega)
      have b1 : (m : Int) ≤ l.length := by omega
      have b2 : (m : Int) ≤ cap := by omega
      have b3 : (0 : Int) ≤ m := by omega
      have b4 : ¬ (l.length : Int) ≤ 8 := by omega
      have b5 : (l.length : Int) ≤ cap := by omega
      have hw : wrap64 (m : Int) = m := by unfold wrap64; omega
      have hmt : (l.length : Int).tdiv 2 = m := by rw [Int.tdiv_eq_ediv_of_nonneg (by omega)]; exact hme
      have HM := Lib.hid hm
      clear ih hN hl h8 hr ha hcp hm hml lt1 lt2 hc hb hvS hgS hsc
      unfold lessG at *
      go_enter Try.func28, Try.ntmps28
      go_wp2_with fail
      go_region_held3 (fun w' => w.heap.size ≤ w'.heap.size) (first | (exact Nat.le_refl _) | (go_keep; done) | (exact z))
        (first | (go_at_call 31; refine (IM.out _ _ _ (Slx.fr hs1 hf2) hs2 hc2).mono ?_; rintro e w3 ⟨v3, rfl, hf3, hs3, hn3, hc3⟩; have F3 : Fr S w w3 := Fr.trans F2 hf3; have z := F3.size; have HN3 := Lib.hid (show ∀ g, v3.ownBlock = some g → w.heap.size ≤ g from fun g hg => Nat.le_trans F2.size (hn3 g hg)); clear hn3) | (go_at_call 28; with_reducible refine (IT.out _ _ (Slx.nil KT.out (by (repeat' (with_reducible first | refine Fr.setCell ?_ (fun hlt => absurd hlt (by dsimp only; omega)) _ | refine Fr.alloc ?_ _ | refine Fr.drewN ?_ _ | refine Fr.drew ?_ | exact Fr.refl _ _)))) (HC.out.nil HL0.out (by (repeat' (with_reducible first | refine Fr.setCell ?_ (fun hlt => absurd hlt (by dsimp only; omega)) _ | refine Fr.alloc ?_ _ | refine Fr.drewN ?_ _ | refine Fr.drew ?_ | exact Fr.refl _ _))))).mono ?_; rintro e w1 ⟨v1, rfl, hf1, hs1, hn1, hc1⟩; clear hn1; have F1 : Fr S w w1 := Fr.trans (by (repeat' (with_reducible first | refine Fr.setCell ?_ (fun hlt => absurd hlt (by dsimp only; omega)) _ | refine Fr.alloc ?_ _ | refine Fr.drewN ?_ _ | refine Fr.drew ?_ | exact Fr.refl _ _))) hf1; have z := F1.size) | (go_at_call 28; with_reducible refine (ID.out _ _ (Slx.fr KD.out (by first | exact F1 | exact F1.drew)) hc1).mono ?_; rintro e w2 ⟨v2, rfl, hf2, hs2, hn2, hc2⟩; clear hn2; have F2 : Fr S w w2 := Fr.trans F1 hf2; have z := F2.size))
      all_goals go_wp2_with fail
      all_goals
        go_ret
        exact ⟨_, rfl, F3, by rw [mrg_isort, List.take_append_drop] at hs3; exact hs3, HN3.out, by rw [HSC.out] at hc3; exact hc3⟩

theorem sort_any (L : Ls F first S J) (n : Nat) (l : List Pr) (v : Value) (k : Nat) (w : World) (hl : l.length ≤ 500) (hb : n + k + sc l.length ≤ 100000) (hv : Slx S w v l) (hc : Cnt J n k w) :
    Calls Try.prog 25 #[v, lessG F first] w fun e w' => ∃ u, e = .returned u ∧ Fr S w w' ∧ Slx S w' u (isort l) ∧ (∀ g, u.ownBlock = some g → w.heap.size ≤ g) ∧ Cnt J n (k + sc l.length) w' := by
  have K := Lib.hid (sort_n L n l.length l v k w (Nat.le_refl _) hl hb hv hc)
  obtain ⟨A, c, rfl⟩ := Sl.shape hv.1
  clear hv hc hb
  unfold lessG at *
  go_enter Try.func25, Try.ntmps25
  go_wp2_with fail
  refine K.out.mono ?_
  rintro e w1 ⟨u, rfl, hf1, hs1, hn1, hc1⟩
  have HN := Lib.hid hn1
  clear hn1
  go_wp2_with fail
  go_ret
  exact ⟨u, rfl, hf1, hs1, HN.out, hc1⟩
end
end Go.Proofs.Ytokgeegbeagblaa.GenD
