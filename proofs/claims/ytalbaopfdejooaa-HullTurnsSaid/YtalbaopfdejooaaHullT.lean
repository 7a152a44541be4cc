import Derived.Test.YtalbaopfdejooaaHullR
/- Chapter 41: the hull of points is the hull of its corners. -/
namespace Go.Proofs.Ytalbaopfdejooaa.HullS
open AreaA HullC HullD HullG HullN
open HullA (lt at_ D Low side_low lt_irr lt_asym lt_or lt_at at_lt at_not at_symm)
open HullB (Inner High inner_iff neg neg_neg lt_neg D_negs low_neg ord_neg)
set_option linter.unusedVariables false

theorem last_of {F : List Pn} (h : HullA.Ord F) (hn : F ≠ []) : ∃ u ∈ F, ∀ q ∈ F, q = u ∨ lt q u := by
  rcases List.eq_nil_or_concat F with e | ⟨A, u, e⟩
  · exact absurd e hn
  · rw [List.concat_eq_append] at e
    subst e
    refine ⟨u, by simp, fun q hq => ?_⟩
    rcases List.mem_append.1 hq with h' | h'
    · exact Or.inr ((List.pairwise_append.1 h).2.2 q h' u (by simp))
    · exact Or.inl (List.mem_singleton.1 h')
theorem first_of {F : List Pn} (h : HullA.Ord F) (hn : F ≠ []) : ∃ u ∈ F, ∀ q ∈ F, q = u ∨ lt u q := by
  cases F with
  | nil => exact absurd rfl hn
  | cons u A =>
    refine ⟨u, by simp, fun q hq => ?_⟩
    rcases List.mem_cons.1 hq with h' | h'
    · exact Or.inl h'
    · exact Or.inr ((List.pairwise_cons.1 h).1 q h')

theorem below_side {P : List Pn} (hs : HullA.Ord P) {p : Pn} (hp : p ∈ P) (hn : ¬ Low P p) : ∃ u ∈ P, ∃ v ∈ P, Low P u ∧ Low P v ∧ lt u p ∧ lt p v ∧ 0 ≤ D u v p := by
  classical
  obtain ⟨a, ha, c, hc, h1, h2⟩ : ∃ a ∈ P, ∃ c ∈ P, lt a p ∧ lt p c := by
    apply Classical.byContradiction
    intro h
    exact hn fun a ha c hc h1 h2 => absurd ⟨a, ha, c, hc, h1, h2⟩ h
  have h2l : 2 ≤ P.length := by
    match P, ha, hc with
    | [], ha, _ => cases ha
    | [x], ha, hc =>
      rw [List.mem_singleton.1 ha] at h1
      rw [List.mem_singleton.1 hc] at h2
      exact (lt_asym h1 h2).elim
    | x :: y :: r, _, _ => simp
  obtain ⟨t, mid, z, rfl⟩ := two_ends h2l
  have hpm : p ∈ mid := by
    rcases mem_ends.1 hp with rfl | h | rfl
    · exact (first_none hs ha h1).elim
    · exact h
    · exact (last_none hs hc h2).elim
  have htp := ((ends hs).1 p hpm).1
  have hpz := ((ends hs).1 p hpm).2
  have lt1 := (low_first hs).1
  have lz1 := (low_last hs).1
  generalize hP : t :: (mid ++ [z]) = P at *
  have htP : t ∈ P := by rw [← hP]; simp
  have hzP : z ∈ P := by rw [← hP]; simp
  have oF : HullA.Ord (P.filter fun q => decide (Low P q ∧ lt q p)) := List.Pairwise.sublist List.filter_sublist hs
  have oG : HullA.Ord (P.filter fun q => decide (Low P q ∧ lt p q)) := List.Pairwise.sublist List.filter_sublist hs
  have mF : ∀ q, q ∈ P.filter (fun q => decide (Low P q ∧ lt q p)) ↔ q ∈ P ∧ Low P q ∧ lt q p := fun q => by simp
  have mG : ∀ q, q ∈ P.filter (fun q => decide (Low P q ∧ lt p q)) ↔ q ∈ P ∧ Low P q ∧ lt p q := fun q => by simp
  obtain ⟨u, hu, hum⟩ := last_of oF (List.ne_nil_of_mem ((mF t).2 ⟨htP, lt1, htp⟩))
  obtain ⟨v, hv, hvm⟩ := first_of oG (List.ne_nil_of_mem ((mG z).2 ⟨hzP, lz1, hpz⟩))
  obtain ⟨u1, u2, u3⟩ := (mF u).1 hu
  obtain ⟨v1, v2, v3⟩ := (mG v).1 hv
  refine ⟨u, u1, v, v1, u2, v2, u3, v3, side_low hs u1 v1 (HullA.lt_trans u3 v3) u2 v2 (fun q hq k1 k2 k3 => ?_) p hp⟩
  rcases lt_or q p with h | h | h
  · rcases hum q ((mF q).2 ⟨hq, k3, h⟩) with rfl | h'
    · exact lt_irr k1
    · exact lt_asym k1 h'
  · exact hn (hs.at hq hp h ▸ k3)
  · rcases hvm q ((mG q).2 ⟨hq, k3, h⟩) with rfl | h'
    · exact lt_irr k2
    · exact lt_asym k2 h'
theorem above_side {P : List Pn} (hs : HullA.Ord P) {p : Pn} (hp : p ∈ P) (hn : ¬ High P p) : ∃ u ∈ P, ∃ v ∈ P, High P u ∧ High P v ∧ lt u p ∧ lt p v ∧ D u v p ≤ 0 := by
  have hm : ∀ x, x ∈ P → neg x ∈ P.reverse.map neg := fun x hx => List.mem_map.2 ⟨x, List.mem_reverse.2 hx, rfl⟩
  obtain ⟨u', hu, v', hv, k1, k2, k3, k4, k5⟩ := below_side (ord_neg hs) (hm p hp) (fun h => hn (low_neg.1 h))
  obtain ⟨v, hv', rfl⟩ := List.mem_map.1 hu
  obtain ⟨u, hu', rfl⟩ := List.mem_map.1 hv
  refine ⟨u, List.mem_reverse.1 hu', v, List.mem_reverse.1 hv', low_neg.1 k2, low_neg.1 k1, (lt_neg _ _).1 k4, (lt_neg _ _).1 k3, ?_⟩
  rw [D_negs, HullA.D_swap] at k5
  omega
theorem low_not {P : List Pn} {u : Pn} (h : Low P u) : ¬ Inner P u := fun k => ((inner_iff P u).1 k).1 h
theorem high_not {P : List Pn} {u : Pn} (h : High P u) : ¬ Inner P u := fun k => ((inner_iff P u).1 k).2 h

theorem pl_ex (l : List Pn) : ∃ P, IsPl l P := by
  have h : ∀ k, k ≤ (srt l).length → ∃ P, IsPl ((srt l).take k) P := by
    intro k
    induction k with
    | zero => intro _; exact ⟨[], IsPl.nil⟩
    | succ k ih =>
      intro hk
      obtain ⟨P, hP⟩ := ih (by omega)
      have hx : (srt l)[k]? = some ((srt l)[k]'(by omega)) := List.getElem?_eq_getElem _
      cases k with
      | zero =>
        have hn : P = [] := by
          cases P with
          | nil => rfl
          | cons y r => have := (hP.2.1 y (by simp)).1; simp at this
        exact ⟨_, pl_first hP hn (srt_srt l) hx⟩
      | succ n =>
        have hz : (srt l)[n]? = some ((srt l)[n]'(by omega)) := List.getElem?_eq_getElem _
        by_cases ha : at_ ((srt l)[n]'(by omega)) ((srt l)[n + 1]'(by omega))
        · exact ⟨_, pl_again (srt_srt l) hP hz hx ha⟩
        · exact ⟨_, pl_more (srt_srt l) hP hz hx ha⟩
  obtain ⟨P, hP⟩ := h _ (Nat.le_refl _)
  rw [List.take_length] at hP
  exact ⟨P, hP.perm (srt_perm l)⟩
theorem hull_ex (l : List Pn) : ∃ h, HullOf l h := by
  obtain ⟨P, hP⟩ := pl_ex l
  exact ⟨_, HullOf.code hP⟩

/-- who lies between some lies between more -/
theorem inner_mono {P Q : List Pn} {p q : Pn} (h : ∀ x ∈ Q, ∃ y ∈ P, at_ y x) (hpq : at_ p q) (hi : Inner Q q) : Inner P p := by
  rw [inner_iff] at hi ⊢
  refine ⟨fun hl => hi.1 fun a ha c hc h1 h2 => ?_, fun hl => hi.2 fun a ha c hc h1 h2 => ?_⟩
  all_goals
    obtain ⟨a', ha', ea⟩ := h a ha
    obtain ⟨c', hc', ec⟩ := h c hc
    have := hl a' ha' c' hc' (lt_at (at_lt ea h1) (at_symm hpq)) (lt_at (at_lt hpq h2) (at_symm ec))
    rw [HullA.D_at1 ea, HullA.D_at2 hpq, HullA.D_at ec] at this
    exact this

/-- a part of the points in which no corner is missing has the same corners -/
theorem hull_core {L T P h : List Pn} (hP : IsPl L P) (hT : ∀ x ∈ T, x ∈ L) (hC : ∀ x ∈ P, ¬ Inner P x → x ∈ T) (hh : HullOf L h) : HullOf T h := by
  obtain ⟨Q, hQ⟩ := pl_ex T
  obtain ⟨P', hP', hr⟩ := hh
  obtain rfl := hP'.unique hP
  clear hP
  have hQP : ∀ x ∈ Q, ∃ y ∈ P', at_ y x := fun x hx => hP'.2.2 x (hT x (hQ.2.1 x hx).1)
  have hCQ : ∀ x ∈ P', ¬ Inner P' x → x ∈ Q := fun x hx hi => by
    obtain ⟨z, hz, hzx⟩ := hQ.2.2 x (hC x hx hi)
    have h1 := (hQ.2.1 z hz).2 x (hC x hx hi) (at_symm hzx)
    have h2 := (hP'.2.1 x hx).2 z (hT z (hQ.2.1 z hz).1) hzx
    rw [← at_eq hzx (Int.le_antisymm h1 h2)]
    exact hz
  have hiff : ∀ y, (y ∈ Q ∧ ¬ Inner Q y) ↔ (y ∈ P' ∧ ¬ Inner P' y) := fun y => by
    constructor
    · rintro ⟨hy, hi⟩
      obtain ⟨p, hp, hpy⟩ := hQP y hy
      have hpi : ¬ Inner P' p := fun k => hi (by
        obtain ⟨k1, k2⟩ := (inner_iff P' p).1 k
        obtain ⟨u, hu, v, hv, lu, lv, a1, a2, a3⟩ := below_side hP'.1 hp k1
        obtain ⟨u', hu', v', hv', lu', lv', b1, b2, b3⟩ := above_side hP'.1 hp k2
        refine (inner_iff Q y).2 ⟨fun hl => ?_, fun hl => ?_⟩
        · have := hl u (hCQ u hu (low_not lu)) v (hCQ v hv (low_not lv)) (lt_at a1 hpy) (at_lt (at_symm hpy) a2)
          rw [HullA.D_neg, ← HullA.D_at hpy] at this
          omega
        · have := hl u' (hCQ u' hu' (high_not lu')) v' (hCQ v' hv' (high_not lv')) (lt_at b1 hpy) (at_lt (at_symm hpy) b2)
          rw [HullA.D_neg, ← HullA.D_at hpy] at this
          omega)
      have hpQ := hCQ p hp hpi
      obtain rfl := hQ.1.at hpQ hy hpy
      exact ⟨hp, hpi⟩
    · rintro ⟨hy, hi⟩
      exact ⟨hCQ y hy hi, fun k => hi (inner_mono hQP (HullA.at_refl y) k)⟩
  refine ⟨Q, hQ, ?_⟩
  rcases hr with ⟨rfl, rfl⟩ | ⟨t, r, rfl, ht, hp, hm⟩
  · refine Or.inl ⟨?_, rfl⟩
    cases Q with
    | nil => rfl
    | cons x Q => obtain ⟨y, hy, _⟩ := hQP x (by simp); cases hy
  · refine Or.inr ⟨t, r, rfl, ?_, hp, fun y => ?_⟩
    · have htP := List.mem_of_head? ht
      have htQ := hCQ t htP (first_corner hP'.1 ht)
      cases Q with
      | nil => cases htQ
      | cons x Q =>
        rcases List.mem_cons.1 htQ with rfl | h
        · rfl
        · exfalso
          have hxt := (List.pairwise_cons.1 hQ.1).1 t h
          obtain ⟨y, hy, hyx⟩ := hQP x (by simp)
          by_cases e : y = t
          · subst e; exact at_not (at_symm hyx) hxt
          · exact lt_asym (head_lt hP'.1 ht hy e) (at_lt hyx hxt)
    · rw [hm]
      have h1 := hiff y
      constructor
      · rintro ⟨a, b, c⟩
        have := h1.2 ⟨a, c⟩
        exact ⟨this.1, b, this.2⟩
      · rintro ⟨a, b, c⟩
        have := h1.1 ⟨a, c⟩
        exact ⟨this.1, b, this.2⟩

/-- the corners are all in the hull -/
theorem corner_in {L P h : List Pn} (hP : IsPl L P) (hh : HullOf L h) {x : Pn} (hx : x ∈ P) (hi : ¬ Inner P x) : x ∈ h := by
  obtain ⟨P', hP', hr⟩ := hh
  obtain rfl := hP'.unique hP
  rcases hr with ⟨rfl, rfl⟩ | ⟨t, r, rfl, ht, hp, hm⟩
  · exact hx
  · by_cases e : x = t
    · subst e; simp
    · exact List.mem_cons_of_mem _ ((hm x).2 ⟨hx, e, hi⟩)
/-- the hull of a hull is it -/
theorem hull_hull {L h : List Pn} (hh : HullOf L h) : HullOf h h := by
  obtain ⟨P, hP⟩ := pl_ex L
  exact hull_core hP (HullL.hull_sub hh) (fun x hx hi => corner_in hP hh hx hi) hh
/-- the hull of two hulls is the hull of all -/
theorem hull_merge {l m a b h : List Pn} (ha : HullOf l a) (hb : HullOf m b) (hh : HullOf (l ++ m) h) : HullOf (a ++ b) h := by
  obtain ⟨P, hP⟩ := pl_ex (l ++ m)
  obtain ⟨A, hA⟩ := pl_ex l
  obtain ⟨B, hB⟩ := pl_ex m
  refine hull_core hP (fun x hx => ?_) (fun x hx hi => ?_) hh
  · rcases List.mem_append.1 hx with h | h
    · exact List.mem_append_left _ (HullL.hull_sub ha x h)
    · exact List.mem_append_right _ (HullL.hull_sub hb x h)
  · obtain ⟨h1, h2⟩ := hP.2.1 x hx
    rcases List.mem_append.1 h1 with h | h
    · refine List.mem_append_left _ ?_
      obtain ⟨z, hz, hzx⟩ := hA.2.2 x h
      have e := at_eq hzx (Int.le_antisymm ((hA.2.1 z hz).2 x h (at_symm hzx)) (h2 z (List.mem_append_left _ (hA.2.1 z hz).1) hzx))
      subst e
      exact corner_in hA ha hz (fun k => hi (inner_mono (fun y hy => hP.2.2 y (List.mem_append_left _ (hA.2.1 y hy).1)) (HullA.at_refl z) k))
    · refine List.mem_append_right _ ?_
      obtain ⟨z, hz, hzx⟩ := hB.2.2 x h
      have e := at_eq hzx (Int.le_antisymm ((hB.2.1 z hz).2 x h (at_symm hzx)) (h2 z (List.mem_append_right _ (hB.2.1 z hz).1) hzx))
      subst e
      exact corner_in hB hb hz (fun k => hi (inner_mono (fun y hy => hP.2.2 y (List.mem_append_right _ (hB.2.1 y hy).1)) (HullA.at_refl z) k))
end Go.Proofs.Ytalbaopfdejooaa.HullS

/- Chapter 41: the hull of four points, three of which are its corners; lives. -/
namespace Go.Proofs.Ytalbaopfdejooaa.HullT
open Go.RowKit Base Slices RowsA KernA KernE AreaA HullC HullD HullE HullF HullG HullH HullI HullJ HullK HullL HullS Quiet
open HullA (lt at_ D Low)
open HullB (Inner Bt Wi High inner_iff)
set_option linter.unusedVariables false
set_option linter.unusedSimpArgs false

def L4 : List Pn := [(1, 0, 0), (2, 2, 0), (3, 1, 0), (4, 1, 1)]
def P4 : List Pn := [(1, 0, 0), (3, 1, 0), (4, 1, 1), (2, 2, 0)]
def H3 : List Pn := [(1, 0, 0), (2, 2, 0), (4, 1, 1)]
theorem pl4 : IsPl L4 P4 := by
  refine ⟨?_, ?_, ?_⟩
  · unfold HullA.Ord P4 lt; simp
  · intro x hx
    simp only [P4, List.mem_cons, List.not_mem_nil, or_false] at hx
    rcases hx with rfl | rfl | rfl | rfl <;> (refine ⟨by simp [L4], fun y hy h => ?_⟩; simp only [L4, List.mem_cons, List.not_mem_nil, or_false] at hy; unfold at_ at h; rcases hy with rfl | rfl | rfl | rfl <;> simp at h ⊢)
  · intro y hy
    simp only [L4, List.mem_cons, List.not_mem_nil, or_false] at hy
    rcases hy with rfl | rfl | rfl | rfl
    · exact ⟨(1, 0, 0), by simp [P4], rfl, rfl⟩
    · exact ⟨(2, 2, 0), by simp [P4], rfl, rfl⟩
    · exact ⟨(3, 1, 0), by simp [P4], rfl, rfl⟩
    · exact ⟨(4, 1, 1), by simp [P4], rfl, rfl⟩
theorem in4 : Inner P4 (3, 1, 0) := Or.inl ⟨(1, 0, 0), by simp [P4], (2, 2, 0), by simp [P4], by unfold lt; simp, by unfold lt; simp, by unfold D crz; simp⟩
theorem hi4 : High P4 (4, 1, 1) := by
  intro a ha c hc h1 h2
  simp only [P4, List.mem_cons, List.not_mem_nil, or_false] at ha hc
  unfold lt at h1 h2
  unfold D crz
  rcases ha with rfl | rfl | rfl | rfl <;> rcases hc with rfl | rfl | rfl | rfl <;> simp at h1 h2 ⊢
theorem lo4 : Low P4 (2, 2, 0) := by
  intro a ha c hc h1 h2
  simp only [P4, List.mem_cons, List.not_mem_nil, or_false] at ha hc
  unfold lt at h1 h2
  rcases hc with rfl | rfl | rfl | rfl <;> simp at h2
theorem hull4 : HullOf L4 H3 := by
  refine ⟨P4, pl4, Or.inr ⟨(1, 0, 0), [(2, 2, 0), (4, 1, 1)], rfl, rfl, ?_, fun y => ?_⟩⟩
  · unfold Lf D crz; simp
  · constructor
    · intro hy
      simp only [List.mem_cons, List.not_mem_nil, or_false] at hy
      rcases hy with rfl | rfl
      · exact ⟨by simp [P4], by simp, low_not lo4⟩
      · exact ⟨by simp [P4], by simp, high_not hi4⟩
    · rintro ⟨hy, hne, hi⟩
      simp only [P4, List.mem_cons, List.not_mem_nil, or_false] at hy
      rcases hy with rfl | rfl | rfl | rfl
      · exact absurd rfl hne
      · exact absurd in4 hi
      · simp
      · simp
theorem gd4 : ∀ p ∈ L4, gd p = true := by
  intro p hp
  simp only [L4, List.mem_cons, List.not_mem_nil, or_false] at hp
  rcases hp with rfl | rfl | rfl | rfl <;> decide
theorem gd3 : ∀ p ∈ H3, gd p = true := by
  intro p hp
  simp only [H3, List.mem_cons, List.not_mem_nil, or_false] at hp
  rcases hp with rfl | rfl | rfl <;> decide

set_option maxRecDepth 100000 in
set_option maxHeartbeats 4000000 in
theorem lives41 (w : World) : Calls Try.prog 11 #[] w fun e w' => e = .returned (.bool true) ∧ Fr Nil w w' := by
  have hs := lit_sl EPt_ok (w := w) (g := w.heap.size) L4 rfl rfl 34
  have K := Lib.hid (Of_good L4 _ (w.alloc (.cells (flat EPt L4).toArray 34)) (by decide) hs gd4)
  have e4 : (flat EPt L4).toArray = #[.int .i64 1, .int .i64 0, .int .i64 0, .int .i64 2, .int .i64 2, .int .i64 0, .int .i64 3, .int .i64 1, .int .i64 0, .int .i64 4, .int .i64 1, .int .i64 1] := rfl
  rw [e4, show L4.length = 4 from rfl] at K
  clear hs e4
  go_enter Try.func11, Try.ntmps11
  go_wp2_with fail
  refine K.out.mono ?_
  rintro e w1 ⟨u, h, rfl, hf1, ho1, hh⟩
  obtain rfl := HullOf.unique hh hull4
  have HF := Lib.hid (Fr.trans ((Fr.refl Nil w).alloc _) hf1)
  have KC := Lib.hid (Check_any H3 u w1 (by decide) (ho1.sl EPt_ok))
  have hc : chk H3 = true := chk_iff.2 ⟨gd3, hull_hull hull4⟩
  rw [hc] at KC
  rcases ho1.sl EPt_ok with ⟨_, e⟩ | ⟨g, o, cap, rfl, hcap, ha, hr⟩
  · simp [H3] at e
  obtain ⟨c0, _, _⟩ := pt_at hr (i := 0) (p := (1, 0, 0)) rfl
  obtain ⟨c3, _, _⟩ := pt_at hr (i := 1) (p := (2, 2, 0)) rfl
  obtain ⟨c6, _, _⟩ := pt_at hr (i := 2) (p := (4, 1, 1)) rfl
  simp only [Nat.zero_mul, Nat.add_zero, Nat.one_mul, Nat.reduceMul] at c0 c3 c6
  rw [show H3.length = 3 from rfl] at hcap KC ⊢
  clear K hf1 ho1 hh hr hc
  go_wp2_with fail
  refine KC.out.mono ?_
  rintro e w2 ⟨rfl, hf2⟩
  have HF2 := Lib.hid (HF.out.trans hf2)
  clear hf2
  go_wp2_with fail
  go_ret
  exact ⟨rfl, HF2.out⟩
end Go.Proofs.Ytalbaopfdejooaa.HullT

