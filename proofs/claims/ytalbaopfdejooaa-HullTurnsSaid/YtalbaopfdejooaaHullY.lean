import Derived.Test.YtalbaopfdejooaaHullW
/- Chapter 41, plain points: neighbours round a hull. -/
namespace Go.Proofs.Ytalbaopfdejooaa.HullX
open AreaA HullC HullD
open AreaB (nxi)
open HullA (lt at_ D Low lows mem_lows side_low lt_irr lt_asym)
open HullB (High highs neg neg_neg lt_neg D_negs low_neg ord_neg)
set_option linter.unusedVariables false

/-- one stands right ahead of the other -/
def Adj (l : List Pn) (a b : Pn) : Prop := ∃ A B, l = A ++ a :: b :: B
theorem adj_split {z a b : Pn} {Y : List Pn} : ∀ {X : List Pn}, Adj (X ++ z :: Y) a b → Adj (X ++ [z]) a b ∨ Adj (z :: Y) a b
  | [], h => Or.inr h
  | x :: X, ⟨A, B, e⟩ => by
    cases A with
    | nil =>
      refine Or.inl ?_
      simp only [List.nil_append, List.cons_append, List.cons.injEq] at e
      obtain ⟨rfl, e⟩ := e
      cases X with
      | nil =>
        simp only [List.nil_append, List.cons.injEq] at e
        obtain ⟨rfl, _⟩ := e
        exact ⟨[], [], rfl⟩
      | cons y X =>
        simp only [List.cons_append, List.cons.injEq] at e
        obtain ⟨rfl, _⟩ := e
        exact ⟨[], X ++ [z], rfl⟩
    | cons y A =>
      simp only [List.cons_append, List.cons.injEq] at e
      obtain ⟨rfl, e⟩ := e
      rcases adj_split (X := X) ⟨A, B, e⟩ with ⟨A', B', h⟩ | h
      · exact Or.inl ⟨x :: A', B', by rw [List.cons_append, h]; rfl⟩
      · exact Or.inr h
theorem adj_of {l : List Pn} {i : Nat} {a b : Pn} (ha : l[i]? = some a) (hb : l[i + 1]? = some b) : Adj l a b := by
  refine ⟨l.take i, l.drop (i + 2), ?_⟩
  obtain ⟨h1, rfl⟩ := List.getElem?_eq_some_iff.1 ha
  obtain ⟨h2, rfl⟩ := List.getElem?_eq_some_iff.1 hb
  rw [← List.drop_eq_getElem_cons h2, ← List.drop_eq_getElem_cons h1, List.take_append_drop]
theorem adj_round {h : List Pn} {t : Pn} {i : Nat} {a b : Pn} (ht : h[0]? = some t) (ha : h[i]? = some a) (hb : h[nxi h.length i]? = some b) : Adj (h ++ [t]) a b := by
  have hi := (List.getElem?_eq_some_iff.1 ha).1
  refine adj_of (i := i) ?_ ?_
  · rw [List.getElem?_append_left hi]; exact ha
  · unfold nxi at hb
    split at hb
    · rw [List.getElem?_append_left (by omega)]; exact hb
    · rw [ht] at hb
      obtain rfl := Option.some.inj hb
      rw [List.getElem?_append_right (by omega), show i + 1 - h.length = 0 by omega]; rfl
theorem adj_ord {F : List Pn} (h : HullA.Ord F) {u v : Pn} (ha : Adj F u v) : u ∈ F ∧ v ∈ F ∧ lt u v ∧ ∀ q ∈ F, lt u q → lt q v → False := by
  obtain ⟨A, B, rfl⟩ := ha
  obtain ⟨h1, h2, h3⟩ := List.pairwise_append.1 h
  obtain ⟨h4, h5⟩ := List.pairwise_cons.1 h2
  obtain ⟨h6, _⟩ := List.pairwise_cons.1 h5
  refine ⟨by simp, by simp, h4 v (by simp), fun q hq k1 k2 => ?_⟩
  rcases List.mem_append.1 hq with h | h
  · exact lt_asym k1 (h3 q h u (by simp))
  · rcases List.mem_cons.1 h with rfl | h
    · exact lt_irr k1
    · rcases List.mem_cons.1 h with rfl | h
      · exact lt_irr k2
      · exact lt_asym k2 (h6 q h)
theorem adj_rev {l : List Pn} {a b : Pn} (h : Adj l.reverse a b) : Adj l b a := by
  obtain ⟨A, B, e⟩ := h
  refine ⟨B.reverse, A.reverse, ?_⟩
  have := congrArg List.reverse e
  rw [List.reverse_reverse] at this
  rw [this]; simp
theorem mem_highs {s : List Pn} {q : Pn} : q ∈ highs s ↔ q ∈ s ∧ High s q := by simp [highs]
theorem low_side {P : List Pn} (hs : HullA.Ord P) {u v : Pn} (h : Adj (lows P) u v) : ∀ p ∈ P, 0 ≤ D u v p := by
  obtain ⟨hu, hv, huv, hno⟩ := adj_ord hs.lows h
  exact side_low hs (mem_lows.1 hu).1 (mem_lows.1 hv).1 huv (mem_lows.1 hu).2 (mem_lows.1 hv).2 (fun q hq k1 k2 k3 => hno q (mem_lows.2 ⟨hq, k3⟩) k1 k2)
theorem high_side {P : List Pn} (hs : HullA.Ord P) {a b : Pn} (h : Adj (highs P).reverse a b) : ∀ p ∈ P, 0 ≤ D a b p := by
  have ho : HullA.Ord (highs P) := List.Pairwise.sublist List.filter_sublist hs
  obtain ⟨hb, ha, hba, hno⟩ := adj_ord ho (adj_rev h)
  have hm : ∀ x, x ∈ P → neg x ∈ P.reverse.map neg := fun x hx => List.mem_map.2 ⟨x, List.mem_reverse.2 hx, rfl⟩
  intro p hp
  have := side_low (ord_neg hs) (hm a (mem_highs.1 ha).1) (hm b (mem_highs.1 hb).1) ((lt_neg _ _).2 hba) (low_neg.2 (mem_highs.1 ha).2) (low_neg.2 (mem_highs.1 hb).2) (fun q hq k1 k2 k3 => by
    obtain ⟨q', hq', rfl⟩ := List.mem_map.1 hq
    exact hno q' (mem_highs.2 ⟨List.mem_reverse.1 hq', low_neg.1 k3⟩) ((lt_neg _ _).1 k2) ((lt_neg _ _).1 k1)) (neg p) (hm p hp)
  rw [D_negs] at this
  exact this
/-- all lie on the left of each side of the hull, or on it -/
theorem hull_left {P : List Pn} (hs : HullA.Ord P) (h2 : 2 ≤ P.length) {i : Nat} {a b : Pn} (ha : (hullP P)[i]? = some a) (hb : (hullP P)[nxi (hullP P).length i]? = some b) : ∀ p ∈ P, 0 ≤ D a b p := by
  obtain ⟨t, mid, z, rfl⟩ := two_ends h2
  have e0 := hull_ends hs
  have e1 := lows_ends hs
  have e2 := highs_ends hs
  have hadj := adj_round (t := t) (by rw [e0]; rfl) ha hb
  rw [e0] at hadj
  rcases adj_split (X := t :: mid.filter _) (z := z) (Y := (mid.filter _).reverse ++ [t]) (by simpa using hadj) with h | h
  · exact low_side hs (by rw [e1]; simpa using h)
  · exact high_side hs (by rw [e2]; simpa using h)
end Go.Proofs.Ytalbaopfdejooaa.HullX

/- Chapter 41: all points lie in their hull. -/
namespace Go.Proofs.Ytalbaopfdejooaa.HullY
open AreaA HullC HullD HullH HullN HullP HullQ HullV HullW HullX
open AreaB (nxi)
open HullA (lt at_ D)
set_option linter.unusedVariables false

theorem bz_at {a b x y : Pn} (h : at_ x y) : bzB a b x = bzB a b y := by unfold bzB; rw [h.1, h.2]
theorem bz_self {a b : Pn} (ha : lie a = true) (hb : lie b = true) : bzB a b a = true ∧ bzB a b b = true := by
  refine ⟨(bz_eq ha hb ha).2 ⟨(HullA.D_self a b).1, ?_, ?_⟩, (bz_eq ha hb hb).2 ⟨(HullA.D_self a b).2.1, ?_, ?_⟩⟩ <;> omega
theorem inH_all {L h : List Pn} (hh : HullOf L h) (hl : ∀ x ∈ L, lie x = true) {x : Pn} (hx : x ∈ L) : inH h x = true := by
  obtain ⟨P, hP⟩ := HullS.pl_ex L
  have e := HullOf.unique hh (HullOf.code hP)
  obtain ⟨p, hp, hpx⟩ := hP.2.2 x hx
  have lP : ∀ y ∈ P, lie y = true := fun y hy => hl y (hP.2.1 y hy).1
  by_cases h2 : P.length < 2
  · rw [if_pos h2] at e
    rw [e]
    clear e hP
    match P, h2, hp with
    | [a], _, hp =>
      obtain rfl := List.mem_singleton.1 hp
      rw [inH_one, ← bz_at hpx]
      exact (bz_self (lP p (by simp)) (lP p (by simp))).1
  · rw [if_neg h2] at e
    have hL := fun {i : Nat} {a b : Pn} => hull_left (i := i) (a := a) (b := b) hP.1 (by omega)
    have hsub : ∀ y ∈ h, y ∈ P := by
      have := hull_round2 hP.1 (by omega)
      rw [← e] at this
      exact HullL.round_sub this
    rw [← e] at hL
    have hlen : 2 ≤ h.length := by
      obtain ⟨t, mid, z, rfl⟩ := two_ends (s := P) (by omega)
      rw [e, hull_ends hP.1]; simp; omega
    by_cases h3 : 3 ≤ h.length
    · rw [inH_three h3]
      refine leftB_iff.2 fun i a b ha hb => ?_
      have la := lP a (hsub a (List.mem_of_getElem? ha))
      have lb := lP b (hsub b (List.mem_of_getElem? hb))
      have := hL ha hb p hp
      rw [HullA.D_at hpx] at this
      have := tD_neg la lb (hl x hx)
      omega
    · obtain ⟨t, mid, z, hPe⟩ := two_ends (s := P) (by omega)
      have hz : h = [t, z] := by
        rw [e]
        rw [hPe] at e hP ⊢
        rw [hull_ends hP.1] at e ⊢
        rw [e] at h3
        simp only [List.length_cons, List.length_append, List.length_reverse] at h3
        rw [List.eq_nil_of_length_eq_zero (l := mid.filter _) (by omega), List.eq_nil_of_length_eq_zero (l := (mid.filter _)) (by omega)]
        rfl
      subst hz
      have d1 := hL (i := 0) (a := t) (b := z) rfl rfl p hp
      have d2 := hL (i := 1) (a := z) (b := t) rfl rfl p hp
      have s := HullA.D_swap t z p
      have d0 : D t z p = 0 := by omega
      have lt_ := lP t (hsub t (by simp))
      have lz := lP z (hsub z (by simp))
      rw [inH_two, ← bz_at hpx]
      rw [hPe] at hp hP
      rcases mem_ends.1 hp with rfl | hm | rfl
      · exact (bz_self lt_ lz).1
      · have h1 := (ends hP.1).1 p hm
        have hbt : HullB.Bt t z p := ⟨h1.1, h1.2, by rw [HullA.D_neg, d0]; rfl⟩
        obtain ⟨_, _, _, k1, k2, k3⟩ := of_bt hbt
        exact (bz_eq lt_ lz (lP p (by rw [hPe]; exact hp))).2 ⟨d0, by omega, by omega⟩
      · exact (bz_self lt_ lz).2
end Go.Proofs.Ytalbaopfdejooaa.HullY

