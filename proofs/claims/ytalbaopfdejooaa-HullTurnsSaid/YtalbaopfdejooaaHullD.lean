import Derived.Test.YtalbaopfdejooaaKernA
/- Chapter 41, plain points: turns, the order of places, and the chain of corners below. -/
namespace Go.Proofs.Ytalbaopfdejooaa.HullA
open KernA
set_option linter.unusedVariables false

/-- a point: its id, x, y -/
abbrev Pn := Int × Int × Int
/-- which way one turns, and how far -/
def D (a b c : Pn) : Int := crz a.2.1 a.2.2 b.2.1 b.2.2 c.2.1 c.2.2
/-- a place ahead of another one -/
def lt (a b : Pn) : Prop := a.2.1 < b.2.1 ∨ (a.2.1 = b.2.1 ∧ a.2.2 < b.2.2)
def at_ (a b : Pn) : Prop := a.2.1 = b.2.1 ∧ a.2.2 = b.2.2
instance (a b : Pn) : Decidable (lt a b) := by unfold lt; infer_instance
instance (a b : Pn) : Decidable (at_ a b) := by unfold at_; infer_instance
theorem lt_trans {a b c : Pn} (h : lt a b) (k : lt b c) : lt a c := by unfold lt at *; omega
theorem lt_irr {a : Pn} (h : lt a a) : False := by unfold lt at h; omega
theorem lt_asym {a b : Pn} (h : lt a b) (k : lt b a) : False := by unfold lt at *; omega
theorem lt_or (a b : Pn) : lt a b ∨ at_ a b ∨ lt b a := by unfold lt at_; omega
theorem at_lt {a b c : Pn} (h : at_ a b) (k : lt b c) : lt a c := by unfold lt at_ at *; omega
theorem lt_at {a b c : Pn} (h : lt a b) (k : at_ b c) : lt a c := by unfold lt at_ at *; omega
theorem at_not {a b : Pn} (h : at_ a b) : ¬ lt a b := by unfold lt at_ at *; omega
theorem at_symm {a b : Pn} (h : at_ a b) : at_ b a := ⟨h.1.symm, h.2.symm⟩
theorem at_refl (a : Pn) : at_ a a := ⟨rfl, rfl⟩

/-! ### vectors that point ahead -/
def Ah (x y : Int) : Prop := 0 < x ∨ (x = 0 ∧ 0 < y)
def X (ux uy vx vy : Int) : Int := ux * vy - uy * vx
section
variable {ux uy vx vy wx wy : Int}
theorem X_id : vx * X ux uy wx wy = wx * X ux uy vx vy + ux * X vx vy wx wy := by unfold X; grind
theorem X_idy : vy * X ux uy wx wy = wy * X ux uy vx vy + uy * X vx vy wx wy := by unfold X; grind
theorem pos_of {a b : Int} (ha : 0 < a) (h : 0 < a * b) : 0 < b := by
  rcases Int.lt_or_le 0 b with h1 | h1
  · exact h1
  · have := Int.mul_nonneg (Int.le_of_lt ha) (show 0 ≤ -b by omega)
    rw [Int.mul_neg] at this
    omega
theorem nn_of {a b : Int} (ha : 0 < a) (h : 0 ≤ a * b) : 0 ≤ b := by
  rcases Int.lt_or_le b 0 with h1 | h1
  · have := Int.mul_pos ha (show 0 < -b by omega)
    rw [Int.mul_neg] at this
    omega
  · exact h1
theorem Ah.x (h : Ah ux uy) : 0 ≤ ux := by unfold Ah at h; omega
theorem tr_ge (hu : Ah ux uy) (hv : Ah vx vy) (hw : Ah wx wy) (h1 : 0 ≤ X ux uy vx vy) (h2 : 0 < X vx vy wx wy) : 0 < X ux uy wx wy := by
  have hux := hu.x
  have hwx := hw.x
  rcases hv with hv | ⟨rfl, hv⟩
  · refine pos_of hv ?_
    rw [X_id (vy := vy)]
    have a1 := Int.mul_nonneg hwx h1
    rcases hu with hu | ⟨rfl, hu⟩
    · have := Int.mul_pos hu h2
      omega
    · unfold X at h1
      have := Int.mul_pos hu hv
      omega
  · unfold X at h2
    have := Int.mul_nonneg (Int.le_of_lt hv) hwx
    omega
theorem tr_eg (hu : Ah ux uy) (hv : Ah vx vy) (hw : Ah wx wy) (h1 : 0 < X ux uy vx vy) (h2 : 0 ≤ X vx vy wx wy) : 0 < X ux uy wx wy := by
  have hux := hu.x
  have hwx := hw.x
  rcases hv with hv | ⟨rfl, hv⟩
  · have hu' : 0 < ux := by
      rcases hu with hu | ⟨rfl, hu⟩
      · exact hu
      · unfold X at h1
        have := Int.mul_pos hu hv
        omega
    refine pos_of hv ?_
    rw [X_id (vy := vy)]
    have a1 := Int.mul_nonneg hux h2
    rcases hw with hw | ⟨rfl, hw⟩
    · have := Int.mul_pos hw h1
      omega
    · have h3 : 0 < X vx vy 0 wy := by
        unfold X
        have := Int.mul_pos hv hw
        omega
      have := Int.mul_pos hu' h3
      omega
  · have hu' : 0 < ux := by
      unfold X at h1
      refine pos_of hv ?_
      rw [Int.mul_comm]
      omega
    have hw' : wx = 0 := by
      unfold X at h2
      rcases Int.lt_or_le 0 wx with h | h
      · have := Int.mul_pos hv h
        omega
      · omega
    rcases hw with hw | ⟨_, hw⟩
    · omega
    · subst hw'
      unfold X
      have := Int.mul_pos hu' hw
      omega
theorem tr_gg (hu : Ah ux uy) (hv : Ah vx vy) (hw : Ah wx wy) (h1 : 0 < X ux uy vx vy) (h2 : 0 < X vx vy wx wy) : 0 < X ux uy wx wy := tr_ge hu hv hw (Int.le_of_lt h1) h2
theorem tr_ee (hu : Ah ux uy) (hv : Ah vx vy) (hw : Ah wx wy) (h1 : 0 ≤ X ux uy vx vy) (h2 : 0 ≤ X vx vy wx wy) : 0 ≤ X ux uy wx wy := by
  have hux := hu.x
  have hwx := hw.x
  rcases hv with hv | ⟨rfl, hv⟩
  · refine nn_of hv ?_
    rw [X_id (vy := vy)]
    have a1 := Int.mul_nonneg hwx h1
    have a2 := Int.mul_nonneg hux h2
    omega
  · have hw' : wx = 0 := by
      unfold X at h2
      rcases Int.lt_or_le 0 wx with h | h
      · have := Int.mul_pos hv h
        omega
      · omega
    rcases hw with hw | ⟨_, hw⟩
    · omega
    · subst hw'
      unfold X
      have := Int.mul_nonneg hux (Int.le_of_lt hw)
      omega
end

section
variable {a b c d p q u v e : Pn}
theorem ah (h : lt a b) : Ah (b.2.1 - a.2.1) (b.2.2 - a.2.2) := by unfold lt at h; unfold Ah; omega
/-- a turn at the middle point -/
theorem D_mid (a b c : Pn) : D a b c = X (b.2.1 - a.2.1) (b.2.2 - a.2.2) (c.2.1 - b.2.1) (c.2.2 - b.2.2) := by unfold D crz X; grind
theorem D_rot (a b c : Pn) : D b c a = D a b c := crz_rot ..
theorem D_neg (a b c : Pn) : D a c b = - D a b c := crz_neg ..
theorem D_swap (a b c : Pn) : D b a c = - D a b c := crz_swap ..
theorem D_at (h : at_ a b) (x y : Pn) : D x y a = D x y b := by unfold D; rw [h.1, h.2]
theorem D_at1 (h : at_ a b) (x y : Pn) : D a x y = D b x y := by unfold D; rw [h.1, h.2]
theorem D_at2 (h : at_ a b) (x y : Pn) : D x a y = D x b y := by unfold D; rw [h.1, h.2]
theorem D_self (a b : Pn) : D a b a = 0 ∧ D a b b = 0 ∧ D a a b = 0 := ⟨crz_a .., crz_b .., by unfold D crz; grind⟩
theorem D_diff (u v p q : Pn) : X (v.2.1 - u.2.1) (v.2.2 - u.2.2) (q.2.1 - p.2.1) (q.2.2 - p.2.2) = D u v q - D u v p := by unfold D crz X; grind
theorem X_neg (a b c d : Int) : X c d a b = - X a b c d := by unfold X; grind
/-- one that turns left at u and at v turns left at u on to p -/
theorem g1 (h1 : lt a u) (h2 : lt u v) (h3 : lt v p) (k1 : 0 < D a u v) (k2 : 0 < D u v p) : 0 < D a u p := by
  rw [D_mid] at *
  have h := tr_gg (ah h1) (ah h2) (ah h3) k1 k2
  have e : X (u.2.1 - a.2.1) (u.2.2 - a.2.2) (p.2.1 - u.2.1) (p.2.2 - u.2.2) = X (u.2.1 - a.2.1) (u.2.2 - a.2.2) (v.2.1 - u.2.1) (v.2.2 - u.2.2) + X (u.2.1 - a.2.1) (u.2.2 - a.2.2) (p.2.1 - v.2.1) (p.2.2 - v.2.2) := by unfold X; grind
  omega
/-- what lies on the left of u v is seen from p behind v -/
theorem g2 (h1 : lt a v) (h2 : lt u v) (h3 : lt v p) (k1 : 0 ≤ D u v a) (k2 : 0 < D u v p) : 0 < D a v p := by
  rw [D_mid] at *
  refine tr_ge (ah h1) (ah h2) (ah h3) ?_ k2
  have e : X (v.2.1 - a.2.1) (v.2.2 - a.2.2) (v.2.1 - u.2.1) (v.2.2 - u.2.2) = X (v.2.1 - u.2.1) (v.2.2 - u.2.2) (a.2.1 - v.2.1) (a.2.2 - v.2.2) := by unfold X; grind
  omega
/-- what lies farthest on the right of u v is a corner below -/
theorem g3 (h : lt u v) (h1 : lt a p) (h2 : lt p c) (k1 : D u v p < D u v a) (k2 : D u v p ≤ D u v c) : 0 < D a p c := by
  rw [D_mid]
  have e1 := D_diff u v a p
  have e2 := D_diff u v p c
  refine tr_eg (ah h1) (ah h) (ah h2) ?_ (by omega)
  rw [X_neg]
  omega
end

/-! ### corners below -/
/-- a place from which one turns left on to all behind it, from all ahead of it -/
def Low (s : List Pn) (q : Pn) : Prop := ∀ a ∈ s, ∀ c ∈ s, lt a q → lt q c → 0 < D a q c
/-- points in order, no two at one place -/
def Ord (s : List Pn) : Prop := s.Pairwise lt
noncomputable def lows (s : List Pn) : List Pn := open Classical in s.filter fun q => decide (Low s q)
theorem mem_lows {s : List Pn} {q : Pn} : q ∈ lows s ↔ q ∈ s ∧ Low s q := by simp [lows]
theorem Ord.lows {s : List Pn} (h : Ord s) : Ord (lows s) := List.Pairwise.sublist List.filter_sublist h
theorem Ord.at {s : List Pn} (h : Ord s) {a b : Pn} (ha : a ∈ s) (hb : b ∈ s) (hab : at_ a b) : a = b := by
  induction h with
  | nil => cases ha
  | @cons x l h1 h2 ih =>
    rcases List.mem_cons.1 ha with e1 | ha'
    · rcases List.mem_cons.1 hb with e2 | hb'
      · rw [e1, e2]
      · exact absurd (e1 ▸ h1 b hb') (at_not hab)
    · rcases List.mem_cons.1 hb with e2 | hb'
      · exact absurd (e2 ▸ h1 a ha') (at_not (at_symm hab))
      · exact ih ha' hb'
/-- the first of those that come to least -/
theorem first_least (f : Pn → Int) : ∀ {s : List Pn}, Ord s → s ≠ [] → ∃ p ∈ s, ∀ q ∈ s, f p ≤ f q ∧ (lt q p → f p < f q)
  | [], _, h => absurd rfl h
  | [a], _, _ => ⟨a, by simp, fun q hq => by
    rw [List.mem_singleton.1 hq]
    exact ⟨Int.le_refl _, fun h => (lt_irr h).elim⟩⟩
  | a :: b :: l, hs, _ => by
    obtain ⟨p, hp, h⟩ := first_least f (List.pairwise_cons.1 hs).2 (by simp)
    have ha := (List.pairwise_cons.1 hs).1
    rcases Int.lt_or_le (f p) (f a) with hlt | hle
    · refine ⟨p, List.mem_cons_of_mem _ hp, fun q hq => ?_⟩
      rcases List.mem_cons.1 hq with rfl | hq
      · exact ⟨Int.le_of_lt hlt, fun _ => hlt⟩
      · exact h q hq
    · refine ⟨a, by simp, fun q hq => ?_⟩
      rcases List.mem_cons.1 hq with rfl | hq
      · exact ⟨Int.le_refl _, fun h => (lt_irr h).elim⟩
      · exact ⟨Int.le_trans hle (h q hq).1, fun h' => (lt_asym h' (ha q hq)).elim⟩
/-- all lie on the left of a side below, or on it -/
theorem side_low {s : List Pn} (hs : Ord s) {u v : Pn} (hu : u ∈ s) (hv : v ∈ s) (huv : lt u v) (lu : Low s u) (lv : Low s v) (hno : ∀ q ∈ s, lt u q → lt q v → ¬ Low s q) : ∀ p ∈ s, 0 ≤ D u v p := by
  obtain ⟨p0, hp0, hmin⟩ := first_least (D u v) hs (List.ne_nil_of_mem hu)
  intro p hp
  refine Int.le_trans ?_ (hmin p hp).1
  rcases Int.lt_or_le (D u v p0) 0 with hneg | h
  · exfalso
    have low0 : Low s p0 := fun a ha c hc h1 h2 => g3 huv h1 h2 ((hmin a ha).2 h1) (hmin c hc).1
    have h1 : lt u p0 := by
      rcases lt_or u p0 with h | h | h
      · exact h
      · rw [← D_at h, (D_self u v).1] at hneg; omega
      · have := lu p0 hp0 v hv h huv
        rw [← D_rot] at this
        omega
    have h2 : lt p0 v := by
      rcases lt_or p0 v with h | h | h
      · exact h
      · rw [D_at h, (D_self u v).2.1] at hneg; omega
      · have := lv u hu p0 hp0 huv h
        omega
    exact hno p0 hp0 h1 h2 low0
  · exact h

/-! ### the chain -/
/-- a point more on the chain (its last corner comes first) -/
def push (p : Pn) : List Pn → List Pn
  | [] => [p]
  | [v] => [p, v]
  | v :: u :: r => if D u v p ≤ 0 then push p (u :: r) else p :: v :: u :: r
def chain (s : List Pn) : List Pn := s.foldl (fun st p => push p st) []
theorem push_filter {p : Pn} {good : Pn → Bool} : ∀ (st : List Pn), (∀ x, st.getLast? = some x → good x = true) → (∀ X v u r, st = X ++ v :: u :: r → (0 < D u v p ↔ good v = true)) → (∀ X v r, st = X ++ v :: r → good v = true → ∀ x ∈ r, good x = true) → push p st = p :: st.filter good
  | [], _, _, _ => rfl
  | [v], h1, _, _ => by
    have := h1 v rfl
    simp [push, this]
  | v :: u :: r, h1, h2, h3 => by
    have h := h2 [] v u r rfl
    unfold push
    by_cases hd : D u v p ≤ 0
    · rw [if_pos hd]
      have hv : good v = false := by
        cases hg : good v with
        | false => rfl
        | true => have := h.2 hg; omega
      rw [push_filter (u :: r) (fun x hx => h1 x (by rw [List.getLast?_cons_cons]; exact hx)) (fun X v' u' r' e => h2 (v :: X) v' u' r' (by rw [e]; rfl)) (fun X v' r' e => h3 (v :: X) v' r' (by rw [e]; rfl)), List.filter_cons_of_neg (a := v) (l := u :: r) (by simp [hv])]
    · rw [if_neg hd]
      have hv := h.1 (by omega)
      have hr := h3 [] v (u :: r) rfl hv
      rw [List.filter_eq_self.2]
      intro x hx
      rcases List.mem_cons.1 hx with rfl | hx
      · exact hv
      · exact hr x hx

theorem lows_snoc {s : List Pn} {p : Pn} (hp : ∀ q ∈ s, lt q p) : lows (s ++ [p]) = (open Classical in (lows s).filter fun v => decide (∀ a ∈ s, lt a v → 0 < D a v p)) ++ [p] := by
  classical
  have e : ∀ q ∈ s, (Low (s ++ [p]) q ↔ Low s q ∧ ∀ a ∈ s, lt a q → 0 < D a q p) := fun q hq => by
    constructor
    · intro h
      exact ⟨fun a ha c hc => h a (List.mem_append_left _ ha) c (List.mem_append_left _ hc), fun a ha h' => h a (List.mem_append_left _ ha) p (by simp) h' (hp q hq)⟩
    · rintro ⟨h1, h2⟩ a ha c hc hl hr
      have ha' : a ∈ s := by
        rcases List.mem_append.1 ha with ha | ha
        · exact ha
        · rw [List.mem_singleton.1 ha] at hl
          exact (lt_asym hl (hp q hq)).elim
      rcases List.mem_append.1 hc with hc | hc
      · exact h1 a ha' c hc hl hr
      · rw [List.mem_singleton.1 hc]
        exact h2 a ha' hl
  have ep : Low (s ++ [p]) p := fun a ha c hc hl hr => by
    rcases List.mem_append.1 hc with hc | hc
    · exact (lt_asym hr (hp c hc)).elim
    · rw [List.mem_singleton.1 hc] at hr
      exact (lt_irr hr).elim
  unfold lows
  rw [List.filter_append, List.filter_filter]
  congr 1
  · refine List.filter_congr fun q hq => ?_
    rw [Bool.eq_iff_iff]
    simp only [decide_eq_true_eq, Bool.and_eq_true, e q hq]
    exact ⟨fun h => ⟨h.2, h.1⟩, fun h => ⟨h.2, h.1⟩⟩
  · simp [ep]

theorem snoc_ind {P : List Pn → Prop} (h0 : P []) (h1 : ∀ s p, P s → P (s ++ [p])) : ∀ s, P s := fun s => by
  have h : ∀ r : List Pn, P r.reverse := fun r => by
    induction r with
    | nil => exact h0
    | cons a r ih => rw [List.reverse_cons]; exact h1 _ _ ih
  have := h s.reverse
  rwa [List.reverse_reverse] at this
/-- the chain is the corners below, the last one first -/
theorem chain_lows : ∀ s, Ord s → chain s = (lows s).reverse := by
  classical
  refine snoc_ind (fun _ => rfl) fun s p ih hs => ?_
  have hs1 : Ord s := (List.pairwise_append.1 hs).1
  have hp : ∀ q ∈ s, lt q p := fun q hq => (List.pairwise_append.1 hs).2.2 q hq p (by simp)
  have e : chain (s ++ [p]) = push p (chain s) := by unfold chain; rw [List.foldl_append]; rfl
  rw [e, ih hs1, lows_snoc hp, List.reverse_append]
  have hl := hs1.lows
  have key : ∀ X v u r, (lows s).reverse = X ++ v :: u :: r → u ∈ s ∧ v ∈ s ∧ lt u v ∧ Low s u ∧ Low s v ∧ ∀ q ∈ s, lt u q → lt q v → ¬ Low s q := fun X v u r e => by
    have e' : lows s = r.reverse ++ u :: v :: X.reverse := by
      have := congrArg List.reverse e
      rw [List.reverse_reverse] at this
      rw [this]
      simp
    have hu := mem_lows.1 (show u ∈ lows s by rw [e']; simp)
    have hv := mem_lows.1 (show v ∈ lows s by rw [e']; simp)
    rw [e'] at hl
    obtain ⟨p1, p2, p3⟩ := List.pairwise_append.1 hl
    obtain ⟨p4, p5⟩ := List.pairwise_cons.1 p2
    obtain ⟨p6, p7⟩ := List.pairwise_cons.1 p5
    refine ⟨hu.1, hv.1, p4 v (by simp), hu.2, hv.2, fun q hq h1 h2 h3 => ?_⟩
    have hm := mem_lows.2 ⟨hq, h3⟩
    rw [e'] at hm
    rcases List.mem_append.1 hm with hm | hm
    · exact lt_asym h1 (p3 q hm u (by simp))
    · rcases List.mem_cons.1 hm with rfl | hm
      · exact lt_irr h1
      · rcases List.mem_cons.1 hm with rfl | hm
        · exact lt_irr h2
        · exact lt_asym h2 (p6 q hm)
  have hpush := push_filter (p := p) (good := fun v => decide (∀ a ∈ s, lt a v → 0 < D a v p)) (lows s).reverse ?_ ?_ ?_
  · rw [hpush]
    rw [List.filter_reverse]
    rfl
  · intro x hx
    rw [List.getLast?_reverse] at hx
    refine decide_eq_true fun a ha hax => ?_
    exfalso
    cases hls : lows s with
    | nil => rw [hls] at hx; cases hx
    | cons y t =>
      rw [hls] at hx
      obtain rfl : y = x := by simpa using hx
      -- the first of all is a corner below
      obtain ⟨m, hm, hmin⟩ := first_least (fun _ => 0) hs1 (List.ne_nil_of_mem ha)
      have hmm : Low s m := fun a' ha' c' hc' h1 _ => absurd ((hmin a' ha').2 h1) (by omega)
      have hmy := mem_lows.2 ⟨hm, hmm⟩
      have hy : ∀ z ∈ lows s, z = y ∨ lt y z := fun z hz => by
        rw [hls] at hz hl
        rcases List.mem_cons.1 hz with rfl | hz
        · exact Or.inl rfl
        · exact Or.inr ((List.pairwise_cons.1 hl).1 z hz)
      rcases hy m hmy with rfl | h
      · exact absurd ((hmin a ha).2 hax) (by omega)
      · exact absurd ((hmin a ha).2 (lt_trans hax h)) (by omega)
  · intro X v u r e
    obtain ⟨hu, hv, huv, lu, lv, hno⟩ := key X v u r e
    have hside := side_low hs1 hu hv huv lu lv hno
    simp only [decide_eq_true_eq]
    constructor
    · intro h a ha hav
      exact g2 hav huv (hp v hv) (hside a ha) h
    · intro h
      exact h u hu huv
  · intro X v r e hg x hx
    simp only [decide_eq_true_eq] at hg ⊢
    intro a ha hax
    have e' : lows s = r.reverse ++ v :: X.reverse := by
      have := congrArg List.reverse e
      rw [List.reverse_reverse] at this
      rw [this]
      simp
    have hx' := mem_lows.1 (show x ∈ lows s by rw [e']; simp [hx])
    have hv' := mem_lows.1 (show v ∈ lows s by rw [e']; simp)
    have hxv : lt x v := by
      rw [e'] at hl
      exact (List.pairwise_append.1 hl).2.2 x (by simpa using hx) v (by simp)
    exact g1 hax hxv (hp v hv'.1) (hx'.2 a ha v hv'.1 hax hxv) (hg x hx'.1 hxv)
end Go.Proofs.Ytalbaopfdejooaa.HullA

/- Chapter 41, plain points: corners above; the hull; which places lie between others; and that the hull is the corners round the first one. -/
namespace Go.Proofs.Ytalbaopfdejooaa.HullB
open KernA HullA
set_option linter.unusedVariables false

/-! ### corners above: turned about -/
def neg (p : Pn) : Pn := (p.1, -p.2.1, -p.2.2)
theorem neg_neg (p : Pn) : neg (neg p) = p := by unfold neg; simp
theorem lt_neg (a b : Pn) : lt (neg a) (neg b) ↔ lt b a := by unfold neg lt; simp only; omega
theorem D_negs (a b c : Pn) : D (neg a) (neg b) (neg c) = D a b c := by unfold D crz neg; simp only; grind
theorem push_neg (p : Pn) : ∀ st : List Pn, push (neg p) (st.map neg) = (push p st).map neg
  | [] => rfl
  | [v] => rfl
  | v :: u :: r => by
    simp only [List.map_cons, push, D_negs]
    by_cases h : D u v p ≤ 0
    · rw [if_pos h, if_pos h]
      have := push_neg p (u :: r)
      simpa using this
    · rw [if_neg h, if_neg h]
      rfl
theorem chain_neg (s : List Pn) : chain (s.map neg) = (chain s).map neg := by
  unfold chain
  have h : ∀ (s st : List Pn), (s.map neg).foldl (fun st p => push p st) (st.map neg) = (s.foldl (fun st p => push p st) st).map neg := fun s => by
    induction s with
    | nil => intro st; rfl
    | cons a s ih => intro st; simp only [List.map_cons, List.foldl_cons, push_neg, ih]
  exact h s []
/-- a place from which one turns right on to all behind it, from all ahead of it -/
def High (s : List Pn) (q : Pn) : Prop := ∀ a ∈ s, ∀ c ∈ s, lt a q → lt q c → D a q c < 0
theorem D_turn (a b c : Pn) : D c b a = - D a b c := by unfold D crz; grind
theorem low_neg {s : List Pn} {q : Pn} : Low (s.reverse.map neg) (neg q) ↔ High s q := by
  constructor
  · intro h a ha c hc h1 h2
    have := h (neg c) (List.mem_map.2 ⟨c, List.mem_reverse.2 hc, rfl⟩) (neg a) (List.mem_map.2 ⟨a, List.mem_reverse.2 ha, rfl⟩) ((lt_neg _ _).2 h2) ((lt_neg _ _).2 h1)
    rw [D_negs, D_turn] at this
    omega
  · intro h a ha c hc h1 h2
    simp only [List.mem_map, List.mem_reverse] at ha hc
    obtain ⟨a, ha, rfl⟩ := ha
    obtain ⟨c, hc, rfl⟩ := hc
    rw [lt_neg] at h1 h2
    have := h c hc a ha h2 h1
    rw [D_negs, D_turn]
    omega
noncomputable def highs (s : List Pn) : List Pn := open Classical in s.filter fun q => decide (High s q)
theorem ord_neg {s : List Pn} (h : Ord s) : Ord (s.reverse.map neg) := by
  unfold HullA.Ord
  rw [List.pairwise_map, List.pairwise_reverse]
  exact h.imp fun h => (lt_neg _ _).2 h
/-- the chain the other way round is the corners above, the first one first -/
theorem chain_highs {s : List Pn} (h : Ord s) : chain s.reverse = highs s := by
  classical
  have e := chain_lows _ (ord_neg h)
  rw [chain_neg] at e
  have e2 := congrArg (List.map neg) e
  rw [List.map_map, show neg ∘ neg = id from funext neg_neg, List.map_id, List.map_reverse] at e2
  rw [e2]
  have e3 : (lows (s.reverse.map neg)).map neg = s.reverse.filter fun q => decide (High s q) := by
    unfold lows
    rw [List.filter_map, List.map_map, show neg ∘ neg = id from funext neg_neg, List.map_id]
    refine List.filter_congr fun q _ => ?_
    rw [Bool.eq_iff_iff]
    simp only [Function.comp, decide_eq_true_eq]
    exact low_neg
  rw [e3, List.filter_reverse, List.reverse_reverse]
  rfl

/-! ### which places lie between others -/
/-- on the piece between two; in the triangle of three -/
def Bt (a c p : Pn) : Prop := lt a p ∧ lt p c ∧ D a p c = 0
def Wi (a b c p : Pn) : Prop := (0 < D a b c ∧ 0 ≤ D a b p ∧ 0 ≤ D b c p ∧ 0 ≤ D c a p) ∨ (D a b c < 0 ∧ D a b p ≤ 0 ∧ D b c p ≤ 0 ∧ D c a p ≤ 0)
def Inner (s : List Pn) (p : Pn) : Prop := (∃ a ∈ s, ∃ c ∈ s, Bt a c p) ∨ ∃ a ∈ s, ∃ b ∈ s, ∃ c ∈ s, lt a b ∧ lt b c ∧ ¬ at_ a p ∧ ¬ at_ b p ∧ ¬ at_ c p ∧ Wi a b c p
theorem D_sum (a b c p : Pn) : D a b c = D a b p + D b c p + D c a p := by unfold D crz; grind
section
variable {a b c p : Pn}
/-- what lies in a triangle lies between its first and its last corner -/
theorem wi_up (hab : lt a b) (hbc : lt b c) (na : ¬ at_ a p) (nc : ¬ at_ c p) (h0 : 0 < D a b c) (h1 : 0 ≤ D a b p) (h2 : 0 ≤ D b c p) (h3 : 0 ≤ D c a p) : lt a p ∧ lt p c := by
  have hac := lt_trans hab hbc
  constructor
  · rcases lt_or a p with h | h | h
    · exact h
    · exact absurd h na
    · exfalso
      have h1' : 0 ≤ X (a.2.1 - p.2.1) (a.2.2 - p.2.2) (b.2.1 - a.2.1) (b.2.2 - a.2.2) := by
        have e : X (a.2.1 - p.2.1) (a.2.2 - p.2.2) (b.2.1 - a.2.1) (b.2.2 - a.2.2) = D a b p := by unfold D crz X; grind
        omega
      have h3' : 0 ≤ X (c.2.1 - a.2.1) (c.2.2 - a.2.2) (a.2.1 - p.2.1) (a.2.2 - p.2.2) := by
        have e : X (c.2.1 - a.2.1) (c.2.2 - a.2.2) (a.2.1 - p.2.1) (a.2.2 - p.2.2) = D c a p := by unfold D crz X; grind
        omega
      have h4 := tr_ee (ah hac) (ah h) (ah hab) h3' h1'
      have e : X (c.2.1 - a.2.1) (c.2.2 - a.2.2) (b.2.1 - a.2.1) (b.2.2 - a.2.2) = - D a b c := by unfold D crz X; grind
      omega
  · rcases lt_or p c with h | h | h
    · exact h
    · exact absurd (at_symm h) nc
    · exfalso
      rw [D_mid] at h2
      have h3' : 0 ≤ X (p.2.1 - c.2.1) (p.2.2 - c.2.2) (c.2.1 - a.2.1) (c.2.2 - a.2.2) := by
        have e : X (p.2.1 - c.2.1) (p.2.2 - c.2.2) (c.2.1 - a.2.1) (c.2.2 - a.2.2) = D c a p := by unfold D crz X; grind
        omega
      have h4 := tr_ee (ah hbc) (ah h) (ah hac) h2 h3'
      have e : X (c.2.1 - b.2.1) (c.2.2 - b.2.2) (c.2.1 - a.2.1) (c.2.2 - a.2.2) = - D a b c := by unfold D crz X; grind
      omega
theorem wi_down (hab : lt a b) (hbc : lt b c) (na : ¬ at_ a p) (nc : ¬ at_ c p) (h0 : D a b c < 0) (h1 : D a b p ≤ 0) (h2 : D b c p ≤ 0) (h3 : D c a p ≤ 0) : lt a p ∧ lt p c := by
  have hac := lt_trans hab hbc
  constructor
  · rcases lt_or a p with h | h | h
    · exact h
    · exact absurd h na
    · exfalso
      have h3' : 0 ≤ X (a.2.1 - p.2.1) (a.2.2 - p.2.2) (c.2.1 - a.2.1) (c.2.2 - a.2.2) := by
        have e : X (a.2.1 - p.2.1) (a.2.2 - p.2.2) (c.2.1 - a.2.1) (c.2.2 - a.2.2) = - D c a p := by unfold D crz X; grind
        omega
      have h1' : 0 ≤ X (b.2.1 - a.2.1) (b.2.2 - a.2.2) (a.2.1 - p.2.1) (a.2.2 - p.2.2) := by
        have e : X (b.2.1 - a.2.1) (b.2.2 - a.2.2) (a.2.1 - p.2.1) (a.2.2 - p.2.2) = - D a b p := by unfold D crz X; grind
        omega
      have h4 := tr_ee (ah hab) (ah h) (ah hac) h1' h3'
      have e : X (b.2.1 - a.2.1) (b.2.2 - a.2.2) (c.2.1 - a.2.1) (c.2.2 - a.2.2) = D a b c := by unfold D crz X; grind
      omega
  · rcases lt_or p c with h | h | h
    · exact h
    · exact absurd (at_symm h) nc
    · exfalso
      have h2' : 0 ≤ X (p.2.1 - c.2.1) (p.2.2 - c.2.2) (c.2.1 - b.2.1) (c.2.2 - b.2.2) := by
        have e : X (p.2.1 - c.2.1) (p.2.2 - c.2.2) (c.2.1 - b.2.1) (c.2.2 - b.2.2) = - D b c p := by unfold D crz X; grind
        omega
      have h3' : 0 ≤ X (c.2.1 - a.2.1) (c.2.2 - a.2.2) (p.2.1 - c.2.1) (p.2.2 - c.2.2) := by
        have e : X (c.2.1 - a.2.1) (c.2.2 - a.2.2) (p.2.1 - c.2.1) (p.2.2 - c.2.2) = - D c a p := by unfold D crz X; grind
        omega
      have h4 := tr_ee (ah hac) (ah h) (ah hbc) h3' h2'
      have e : X (c.2.1 - a.2.1) (c.2.2 - a.2.2) (c.2.1 - b.2.1) (c.2.2 - b.2.2) = D a b c := by unfold D crz X; grind
      omega
end
theorem wi_not {s : List Pn} {a b c p : Pn} (ha : a ∈ s) (hb : b ∈ s) (hc : c ∈ s) (hab : lt a b) (hbc : lt b c) (na : ¬ at_ a p) (nb : ¬ at_ b p) (nc : ¬ at_ c p) (h : Wi a b c p) : ¬ Low s p ∧ ¬ High s p := by
  rcases h with ⟨h0, h1, h2, h3⟩ | ⟨h0, h1, h2, h3⟩
  · obtain ⟨k1, k2⟩ := wi_up hab hbc na nc h0 h1 h2 h3
    constructor
    · intro hl
      rcases lt_or p b with h | h | h
      · have := hl a ha b hb k1 h
        rw [D_neg] at h1
        omega
      · exact nb (at_symm h)
      · have := hl b hb c hc h k2
        rw [D_neg] at h2
        omega
    · intro hh
      have := hh a ha c hc k1 k2
      rw [← D_rot] at h3
      omega
  · obtain ⟨k1, k2⟩ := wi_down hab hbc na nc h0 h1 h2 h3
    constructor
    · intro hl
      have := hl a ha c hc k1 k2
      rw [← D_rot] at h3
      omega
    · intro hh
      rcases lt_or p b with h | h | h
      · have := hh a ha b hb k1 h
        rw [D_neg] at h1
        omega
      · exact nb (at_symm h)
      · have := hh b hb c hc h k2
        rw [D_neg] at h2
        omega
theorem lt_ne {a p : Pn} (h : lt a p) : ¬ at_ a p ∧ ¬ at_ p a := ⟨fun k => at_not k h, fun k => at_not (at_symm k) h⟩
theorem inner_iff (s : List Pn) (p : Pn) : Inner s p ↔ ¬ Low s p ∧ ¬ High s p := by
  classical
  constructor
  · rintro (⟨a, ha, c, hc, h1, h2, h3⟩ | ⟨a, ha, b, hb, c, hc, hab, hbc, na, nb, nc, h⟩)
    · exact ⟨fun hl => by have := hl a ha c hc h1 h2; omega, fun hh => by have := hh a ha c hc h1 h2; omega⟩
    · exact wi_not ha hb hc hab hbc na nb nc h
  · rintro ⟨hl, hh⟩
    obtain ⟨a, ha, c, hc, k1, k2, k3⟩ : ∃ a ∈ s, ∃ c ∈ s, lt a p ∧ lt p c ∧ D a p c ≤ 0 := by
      apply Classical.byContradiction
      intro hn
      exact hl fun a ha c hc h1 h2 => by
        apply Classical.byContradiction
        intro h
        exact hn ⟨a, ha, c, hc, h1, h2, by omega⟩
    obtain ⟨a', ha', c', hc', j1, j2, j3⟩ : ∃ a ∈ s, ∃ c ∈ s, lt a p ∧ lt p c ∧ 0 ≤ D a p c := by
      apply Classical.byContradiction
      intro hn
      exact hh fun a ha c hc h1 h2 => by
        apply Classical.byContradiction
        intro h
        exact hn ⟨a, ha, c, hc, h1, h2, by omega⟩
    by_cases z1 : D a p c = 0
    · exact Or.inl ⟨a, ha, c, hc, k1, k2, z1⟩
    by_cases z2 : D a' p c' = 0
    · exact Or.inl ⟨a', ha', c', hc', j1, j2, z2⟩
    by_cases z3 : D a p c' = 0
    · exact Or.inl ⟨a, ha, c', hc', k1, j2, z3⟩
    refine Or.inr ?_
    have k4 : D a p c < 0 := by omega
    have j4 : 0 < D a' p c' := by omega
    rcases Int.lt_or_le 0 (D a p c') with e | e
    · -- a, c, c'
      have f1 : D a c p = - D a p c := D_neg ..
      have f2 : D c' a p = D a p c' := by rw [← D_rot]
      have f3 : 0 < D c c' p := by
        have e1 := D_mid a p c
        have e2 := D_mid a p c'
        have h := tr_gg (ah k2) (ah k1) (ah j2) (by rw [X_neg]; omega) (by omega)
        have e3 : X (c.2.1 - p.2.1) (c.2.2 - p.2.2) (c'.2.1 - p.2.1) (c'.2.2 - p.2.2) = D c c' p := by unfold D crz X; grind
        omega
      have f4 := D_sum a c c' p
      have f5 : D a c' p = - D a p c' := D_neg ..
      have f6 : D c' c p = - D c c' p := D_swap ..
      have f7 : D c a p = D a p c := by rw [← D_rot]
      have f8 := D_sum a c' c p
      rcases lt_or c c' with h | h | h
      · exact ⟨a, ha, c, hc, c', hc', lt_trans k1 k2, h, (lt_ne k1).1, (lt_ne k2).2, (lt_ne j2).2, Or.inl ⟨by omega, by omega, by omega, by omega⟩⟩
      · exfalso
        rw [D_at h] at k4
        omega
      · exact ⟨a, ha, c', hc', c, hc, lt_trans k1 j2, h, (lt_ne k1).1, (lt_ne j2).2, (lt_ne k2).2, Or.inr ⟨by omega, by omega, by omega, by omega⟩⟩
    · -- a, a', c'
      have f1 : D a' c' p = - D a' p c' := D_neg ..
      have f2 : D c' a p = D a p c' := by rw [← D_rot]
      have f3 : D a a' p < 0 := by
        have e1 := D_mid a' p c'
        have e2 := D_mid a p c'
        have h := tr_gg (ah j1) (ah j2) (ah k1) (by omega) (by rw [X_neg]; omega)
        have e3 : X (p.2.1 - a'.2.1) (p.2.2 - a'.2.2) (p.2.1 - a.2.1) (p.2.2 - a.2.2) = - D a a' p := by unfold D crz X; grind
        omega
      have f4 := D_sum a a' c' p
      have f5 : D a c' p = - D a p c' := D_neg ..
      have f6 : D a' a p = - D a a' p := D_swap ..
      have f7 : D c' a' p = D a' p c' := by rw [← D_rot]
      have f8 := D_sum a' a c' p
      rcases lt_or a a' with h | h | h
      · exact ⟨a, ha, a', ha', c', hc', h, lt_trans j1 j2, (lt_ne k1).1, (lt_ne j1).1, (lt_ne j2).2, Or.inr ⟨by omega, by omega, by omega, by omega⟩⟩
      · exfalso
        rw [← D_at1 h] at j4
        omega
      · exact ⟨a', ha', a, ha, c', hc', h, lt_trans k1 j2, (lt_ne j1).1, (lt_ne k1).1, (lt_ne j2).2, Or.inl ⟨by omega, by omega, by omega, by omega⟩⟩
end Go.Proofs.Ytalbaopfdejooaa.HullB

/- Chapter 41, plain points: the corners of points, from the first one on, turning left: what the hull is, and that it is fixed by that. -/
namespace Go.Proofs.Ytalbaopfdejooaa.HullC
open KernA HullA HullB
set_option linter.unusedVariables false

/-- seen from t, v lies on the left of u -/
def Lf (t u v : Pn) : Prop := 0 < D t u v
theorem Lf.asym {t u v : Pn} (h : Lf t u v) (k : Lf t v u) : False := by
  unfold Lf at *
  rw [D_neg] at k
  omega
/-- two lists in one order that have the same -/
theorem order_unique {R : Pn → Pn → Prop} (hR : ∀ u v, R u v → R v u → False) : ∀ {a b : List Pn}, a.Pairwise R → b.Pairwise R → (∀ x, x ∈ a ↔ x ∈ b) → a = b
  | [], [], _, _, _ => rfl
  | [], y :: b, _, _, h => absurd ((h y).2 (by simp)) (by simp)
  | x :: a, [], _, _, h => absurd ((h x).1 (by simp)) (by simp)
  | x :: a, y :: b, ha, hb, h => by
    obtain ⟨a1, a2⟩ := List.pairwise_cons.1 ha
    obtain ⟨b1, b2⟩ := List.pairwise_cons.1 hb
    have e : x = y := by
      rcases List.mem_cons.1 ((h x).1 (by simp)) with e | e
      · exact e
      · rcases List.mem_cons.1 ((h y).2 (by simp)) with e' | e'
        · exact e'.symm
        · exact (hR x y (a1 y e') (b1 x e)).elim
    subst e
    rw [order_unique hR a2 b2]
    intro z
    constructor
    · intro hz
      rcases List.mem_cons.1 ((h z).1 (List.mem_cons_of_mem _ hz)) with e | e
      · exact (hR x x (a1 x (e ▸ hz)) (a1 x (e ▸ hz))).elim
      · exact e
    · intro hz
      rcases List.mem_cons.1 ((h z).2 (List.mem_cons_of_mem _ hz)) with e | e
      · exact (hR x x (b1 x (e ▸ hz)) (b1 x (e ▸ hz))).elim
      · exact e
theorem ord_unique {a b : List Pn} (ha : HullA.Ord a) (hb : HullA.Ord b) (h : ∀ x, x ∈ a ↔ x ∈ b) : a = b := order_unique (fun _ _ => lt_asym) ha hb h

/-- of points in order: the first one, and behind it the others between which and the first none lies, turning left round the first -/
def Round (s out : List Pn) : Prop := ∃ t r, out = t :: r ∧ s.head? = some t ∧ r.Pairwise (Lf t) ∧ ∀ y, y ∈ r ↔ y ∈ s ∧ y ≠ t ∧ ¬ Inner s y
theorem Round.unique {s a b : List Pn} (ha : Round s a) (hb : Round s b) : a = b := by
  obtain ⟨t, r, rfl, h1, h2, h3⟩ := ha
  obtain ⟨t', r', rfl, k1, k2, k3⟩ := hb
  rw [h1] at k1
  cases k1
  rw [order_unique (fun _ _ => Lf.asym) h2 k2 fun x => (h3 x).trans (k3 x).symm]

/-- the hull of points in order, out of both chains -/
noncomputable def hullP (s : List Pn) : List Pn := (lows s).dropLast ++ (highs s).reverse.dropLast
section
variable {s mid : List Pn} {t z : Pn}
theorem ends (hs : HullA.Ord (t :: (mid ++ [z]))) : (∀ q ∈ mid, lt t q ∧ lt q z) ∧ lt t z ∧ HullA.Ord mid := by
  obtain ⟨h1, h2⟩ := List.pairwise_cons.1 hs
  obtain ⟨h3, _, h4⟩ := List.pairwise_append.1 h2
  exact ⟨fun q hq => ⟨h1 q (by simp [hq]), h4 q hq z (by simp)⟩, h1 z (by simp), h3⟩
theorem mem_ends {q : Pn} : q ∈ t :: (mid ++ [z]) ↔ q = t ∨ q ∈ mid ∨ q = z := by simp
theorem first_none (hs : HullA.Ord (t :: (mid ++ [z]))) {q : Pn} (hq : q ∈ t :: (mid ++ [z])) : ¬ lt q t := fun h => by
  rcases mem_ends.1 hq with rfl | hq | rfl
  · exact lt_irr h
  · exact lt_asym h ((ends hs).1 q hq).1
  · exact lt_asym h (ends hs).2.1
theorem last_none (hs : HullA.Ord (t :: (mid ++ [z]))) {q : Pn} (hq : q ∈ t :: (mid ++ [z])) : ¬ lt z q := fun h => by
  rcases mem_ends.1 hq with rfl | hq | rfl
  · exact lt_asym h (ends hs).2.1
  · exact lt_asym h ((ends hs).1 q hq).2
  · exact lt_irr h
theorem low_first (hs : HullA.Ord (t :: (mid ++ [z]))) : Low (t :: (mid ++ [z])) t ∧ High (t :: (mid ++ [z])) t := ⟨fun a ha c hc h => absurd h (first_none hs ha), fun a ha c hc h => absurd h (first_none hs ha)⟩
theorem low_last (hs : HullA.Ord (t :: (mid ++ [z]))) : Low (t :: (mid ++ [z])) z ∧ High (t :: (mid ++ [z])) z := ⟨fun a ha c hc _ h => absurd h (last_none hs hc), fun a ha c hc _ h => absurd h (last_none hs hc)⟩
theorem not_both (hs : HullA.Ord (t :: (mid ++ [z]))) {q : Pn} (hq : q ∈ mid) (h1 : Low (t :: (mid ++ [z])) q) (h2 : High (t :: (mid ++ [z])) q) : False := by
  have h := (ends hs).1 q hq
  have a := h1 t (by simp) z (by simp) h.1 h.2
  have b := h2 t (by simp) z (by simp) h.1 h.2
  omega
open Classical in
theorem lows_ends (hs : HullA.Ord (t :: (mid ++ [z]))) : lows (t :: (mid ++ [z])) = t :: (mid.filter (fun q => decide (Low (t :: (mid ++ [z])) q)) ++ [z]) := by
  unfold lows
  rw [List.filter_cons_of_pos (by simpa using (low_first hs).1), List.filter_append]
  congr 2
  rw [List.filter_cons_of_pos (by simpa using (low_last hs).1)]
  rfl
open Classical in
theorem highs_ends (hs : HullA.Ord (t :: (mid ++ [z]))) : highs (t :: (mid ++ [z])) = t :: (mid.filter (fun q => decide (High (t :: (mid ++ [z])) q)) ++ [z]) := by
  unfold highs
  rw [List.filter_cons_of_pos (by simpa using (low_first hs).2), List.filter_append]
  congr 2
  rw [List.filter_cons_of_pos (by simpa using (low_last hs).2)]
  rfl
open Classical in
theorem hull_ends (hs : HullA.Ord (t :: (mid ++ [z]))) : hullP (t :: (mid ++ [z])) = t :: (mid.filter (fun q => decide (Low (t :: (mid ++ [z])) q)) ++ z :: (mid.filter (fun q => decide (High (t :: (mid ++ [z])) q))).reverse) := by
  unfold hullP
  rw [lows_ends hs, highs_ends hs]
  have e1 : ∀ l : List Pn, (t :: (l ++ [z])).dropLast = t :: l := fun l => by rw [← List.cons_append, List.dropLast_concat]
  have e2 : ∀ l : List Pn, (t :: (l ++ [z])).reverse.dropLast = z :: l.reverse := fun l => by
    rw [List.reverse_cons, List.dropLast_concat, List.reverse_append]
    rfl
  rw [e1, e2]
  rfl
theorem hull_round (hs : HullA.Ord (t :: (mid ++ [z]))) : Round (t :: (mid ++ [z])) (hullP (t :: (mid ++ [z]))) := by
  classical
  rw [hull_ends hs]
  have he := ends hs
  refine ⟨t, _, rfl, rfl, ?_, fun y => ?_⟩
  · refine List.pairwise_append.2 ⟨?_, List.pairwise_cons.2 ⟨?_, ?_⟩, ?_⟩
    · refine (List.Pairwise.filter _ he.2.2).imp_of_mem fun {u v} hu hv huv => ?_
      simp only [List.mem_filter, decide_eq_true_eq] at hu hv
      exact hu.2 t (by simp) v (by simp [hv.1]) (he.1 u hu.1).1 huv
    · intro v hv
      simp only [List.mem_reverse, List.mem_filter, decide_eq_true_eq] at hv
      have := hv.2 t (by simp) z (by simp) (he.1 v hv.1).1 (he.1 v hv.1).2
      unfold Lf
      rw [D_neg]
      omega
    · rw [List.pairwise_reverse]
      refine (List.Pairwise.filter _ he.2.2).imp_of_mem fun {u v} hu hv huv => ?_
      simp only [List.mem_filter, decide_eq_true_eq] at hu hv
      have := hu.2 t (by simp) v (by simp [hv.1]) (he.1 u hu.1).1 huv
      unfold Lf
      rw [D_neg]
      omega
    · intro u hu v hv
      simp only [List.mem_filter, decide_eq_true_eq] at hu
      rcases List.mem_cons.1 hv with rfl | hv
      · exact hu.2 t (by simp) _ (by simp) (he.1 u hu.1).1 (he.1 u hu.1).2
      · simp only [List.mem_reverse, List.mem_filter, decide_eq_true_eq] at hv
        rcases lt_or u v with h | h | h
        · exact hu.2 t (by simp) v (by simp [hv.1]) (he.1 u hu.1).1 h
        · have e := HullA.Ord.at he.2.2 hu.1 hv.1 h
          subst e
          exact (not_both hs hu.1 hu.2 hv.2).elim
        · have := hv.2 t (by simp) u (by simp [hu.1]) (he.1 v hv.1).1 h
          unfold Lf
          rw [D_neg]
          omega
  · rw [inner_iff]
    simp only [List.mem_append, List.mem_cons, List.mem_reverse, List.mem_filter, decide_eq_true_eq]
    constructor
    · rintro (⟨h1, h2⟩ | rfl | ⟨h1, h2⟩)
      · exact ⟨Or.inr (Or.inl h1), fun e => by subst e; exact lt_irr (he.1 _ h1).1, fun h => h.1 h2⟩
      · exact ⟨by simp, fun e => by subst e; exact lt_irr he.2.1, fun h => h.1 (low_last hs).1⟩
      · exact ⟨Or.inr (Or.inl h1), fun e => by subst e; exact lt_irr (he.1 _ h1).1, fun h => h.2 h2⟩
    · rintro ⟨h1, h2, h3⟩
      rcases h1 with h1 | h1 | h1
      · exact absurd h1 h2
      · by_cases hl : Low (t :: (mid ++ [z])) y
        · exact Or.inl ⟨h1, hl⟩
        · refine Or.inr (Or.inr ⟨h1, Classical.byContradiction fun hh => h3 ⟨hl, hh⟩⟩)
      · have h1' : y = z := by simpa using h1
        exact Or.inr (Or.inl h1')
end
theorem two_ends : ∀ {s : List Pn}, 2 ≤ s.length → ∃ t mid z, s = t :: (mid ++ [z])
  | [], h => by simp at h
  | [a], h => by simp at h
  | a :: b :: l, _ => by
    have hne : b :: l ≠ [] := by simp
    exact ⟨a, (b :: l).dropLast, (b :: l).getLast hne, by rw [List.dropLast_concat_getLast]⟩
theorem hull_round2 {s : List Pn} (hs : HullA.Ord s) (h : 2 ≤ s.length) : Round s (hullP s) := by
  obtain ⟨t, mid, z, rfl⟩ := two_ends h
  exact hull_round hs
theorem round_one (a : Pn) : Round [a] [a] := by
  refine ⟨a, [], rfl, rfl, List.Pairwise.nil, fun y => ?_⟩
  simp only [List.mem_singleton, List.not_mem_nil, false_iff]
  rintro ⟨h1, h2, _⟩
  exact h2 h1

/-! ### one corner more, round the first -/
/-- so far: the first one, and behind it those of the first i that are corners of all -/
def Sofar (s : List Pn) (i : Nat) (out : List Pn) : Prop := ∃ t r, out = t :: r ∧ s.head? = some t ∧ r.Pairwise (Lf t) ∧ ∀ y, y ∈ r ↔ y ∈ s.take i ∧ y ≠ t ∧ ¬ Inner s y
theorem Sofar.round {s out : List Pn} (h : Sofar s s.length out) : Round s out := by
  unfold Sofar at h
  rw [List.take_length] at h
  exact h
theorem first_corner {s : List Pn} (hs : HullA.Ord s) {t : Pn} (ht : s.head? = some t) : ¬ Inner s t := by
  rw [inner_iff]
  intro h
  refine h.1 fun a ha c hc h1 h2 => ?_
  cases s with
  | nil => cases ht
  | cons x l =>
    cases ht
    rcases List.mem_cons.1 ha with rfl | ha
    · exact (lt_irr h1).elim
    · exact (lt_asym h1 ((List.pairwise_cons.1 hs).1 a ha)).elim
theorem Sofar.start {s : List Pn} {t : Pn} (ht : s.head? = some t) : Sofar s 1 [t] := by
  refine ⟨t, [], rfl, ht, List.Pairwise.nil, fun y => ?_⟩
  cases s with
  | nil => cases ht
  | cons x l =>
    cases ht
    simp only [List.not_mem_nil, List.take_succ_cons, List.take_zero, List.mem_singleton, false_iff]
    rintro ⟨h1, h2, _⟩
    exact h2 h1
theorem mem_take_succ {s : List Pn} {i : Nat} {x y : Pn} (hx : s[i]? = some x) : y ∈ s.take (i + 1) ↔ y ∈ s.take i ∨ y = x := by
  obtain ⟨hk, rfl⟩ := List.getElem?_eq_some_iff.1 hx
  rw [List.take_succ_eq_append_getElem hk, List.mem_append, List.mem_singleton]
theorem head_lt {s : List Pn} (hs : HullA.Ord s) {t : Pn} (ht : s.head? = some t) {y : Pn} (hy : y ∈ s) (hne : y ≠ t) : lt t y := by
  cases s with
  | nil => cases ht
  | cons x l =>
    cases ht
    rcases List.mem_cons.1 hy with e | e
    · exact absurd e hne
    · exact (List.pairwise_cons.1 hs).1 y e
theorem Sofar.pass {s out : List Pn} {i : Nat} {x : Pn} (h : Sofar s i out) (hx : s[i]? = some x) (hi : Inner s x) : Sofar s (i + 1) out := by
  obtain ⟨t, r, rfl, h1, h2, h3⟩ := h
  refine ⟨t, r, rfl, h1, h2, fun y => ?_⟩
  rw [h3, mem_take_succ hx]
  constructor
  · rintro ⟨a, b, c⟩
    exact ⟨Or.inl a, b, c⟩
  · rintro ⟨a | rfl, b, c⟩
    · exact ⟨a, b, c⟩
    · exact absurd hi c
theorem take_lt {s : List Pn} (hs : HullA.Ord s) {i : Nat} {x y : Pn} (hx : s[i]? = some x) (hy : y ∈ s.take i) : lt y x := by
  obtain ⟨j, hj, rfl⟩ := List.mem_take_iff_getElem.1 hy
  obtain ⟨hk, rfl⟩ := List.getElem?_eq_some_iff.1 hx
  exact List.pairwise_iff_getElem.1 hs j i (by omega) hk (by omega)
theorem Sofar.more {s out : List Pn} {i : Nat} {x : Pn} (hs : HullA.Ord s) (h : Sofar s i out) (hi : 1 ≤ i) (hx : s[i]? = some x) (hc : ¬ Inner s x) {k : Nat} (hk : 1 ≤ k) (hk2 : k ≤ out.length)
    (hbehind : ∀ (j : Nat) y, k ≤ j → out[j]? = some y → ∀ t, s.head? = some t → D t y x < 0) (hahead : k = 1 ∨ ∃ y t, out[k - 1]? = some y ∧ s.head? = some t ∧ ¬ D t y x < 0) : Sofar s (i + 1) (out.take k ++ x :: out.drop k) := by
  obtain ⟨t, r, rfl, h1, h2, h3⟩ := h
  obtain ⟨k, rfl⟩ : ∃ k', k = k' + 1 := ⟨k - 1, by omega⟩
  have hxs := List.mem_of_getElem? hx
  have hxt : lt t x := by
    refine head_lt hs h1 hxs fun e => ?_
    subst e
    have h0 : x ∈ s.take i := by
      cases s with
      | nil => cases h1
      | cons a l =>
        cases h1
        cases i with
        | zero => omega
        | succ i => simp
    exact lt_irr (take_lt hs hx h0)
  have hne : ∀ y ∈ r, D t y x ≠ 0 ∧ lt t y ∧ lt y x := fun y hy => by
    have hy' := (h3 y).1 hy
    have hys := List.mem_of_mem_take hy'.1
    have hty := head_lt hs h1 hys hy'.2.1
    have hyx := take_lt hs hx hy'.1
    refine ⟨fun e => hy'.2.2 (Or.inl ⟨t, ?_, x, hxs, hty, hyx, e⟩), hty, hyx⟩
    cases s with
    | nil => cases h1
    | cons a l => cases h1; simp
  have hb : ∀ y ∈ r.drop k, D t y x < 0 := fun y hy => by
    obtain ⟨j, hj⟩ := List.mem_iff_getElem?.1 hy
    rw [List.getElem?_drop] at hj
    exact hbehind (k + j + 1) y (by omega) (by simpa using hj) t h1
  have ha : ∀ y ∈ r.take k, 0 < D t y x := by
    rcases hahead with h0 | ⟨y0, t', hy0, ht', hn⟩
    · obtain rfl : k = 0 := by omega
      simp
    · rw [h1] at ht'
      cases ht'
      intro y hy
      have hy0r : k = 0 ∨ r[k - 1]? = some y0 := by
        cases k with
        | zero => exact Or.inl rfl
        | succ k => exact Or.inr (by simpa using hy0)
      rcases hy0r with rfl | hy0r
      · simp at hy
      have hm0 := List.mem_of_getElem? hy0r
      have hp0 : 0 < D t y0 x := by have := (hne y0 hm0).1; omega
      obtain ⟨j, hj, rfl⟩ := List.mem_take_iff_getElem.1 hy
      obtain ⟨hk', rfl⟩ := List.getElem?_eq_some_iff.1 hy0r
      rcases Nat.lt_or_ge j (k - 1) with hlt | hge
      · have hl : Lf t r[j] r[k - 1] := List.pairwise_iff_getElem.1 h2 j (k - 1) (by omega) hk' hlt
        have hyj := hne r[j] (List.getElem_mem _)
        unfold Lf at hl
        have e1 := D_diff t r[j] t r[k - 1]
        have e2 := D_diff t r[k - 1] t x
        have z1 := (D_self t r[j]).1
        have z2 := (D_self t r[k - 1]).1
        have hx := tr_gg (ah hyj.2.1) (ah (hne _ hm0).2.1) (ah hxt) (by omega) (by omega)
        have e3 := D_diff t r[j] t x
        omega
      · have e : j = k - 1 := by omega
        subst e
        exact hp0
  refine ⟨t, r.take k ++ x :: r.drop k, by simp, h1, ?_, fun y => ?_⟩
  · have h2' := h2
    rw [← List.take_append_drop k r] at h2'
    obtain ⟨p1, p2, p3⟩ := List.pairwise_append.1 h2'
    refine List.pairwise_append.2 ⟨p1, List.pairwise_cons.2 ⟨fun v hv => ?_, p2⟩, fun u hu v hv => ?_⟩
    · unfold Lf
      rw [D_neg]
      have := hb v hv
      omega
    · rcases List.mem_cons.1 hv with rfl | hv
      · exact ha u hu
      · exact p3 u hu v hv
  · rw [mem_take_succ hx]
    have hm : y ∈ r.take k ++ x :: r.drop k ↔ y ∈ r ∨ y = x := by
      conv => rhs; rw [← List.take_append_drop k r]
      simp only [List.mem_append, List.mem_cons]
      constructor
      · rintro (h | h | h)
        · exact Or.inl (Or.inl h)
        · exact Or.inr h
        · exact Or.inl (Or.inr h)
      · rintro ((h | h) | h)
        · exact Or.inl h
        · exact Or.inr (Or.inr h)
        · exact Or.inr (Or.inl h)
    rw [hm, h3]
    constructor
    · rintro (⟨a, b, c⟩ | rfl)
      · exact ⟨Or.inl a, b, c⟩
      · exact ⟨Or.inr rfl, fun e => by rw [e] at hxt; exact lt_irr hxt, hc⟩
    · rintro ⟨a | a, b, c⟩
      · exact Or.inl ⟨a, b, c⟩
      · exact Or.inr a
end Go.Proofs.Ytalbaopfdejooaa.HullC

/- Chapter 41, plain points: the order by x, y, id; sorting, merging; of each place the one with the least id. -/
namespace Go.Proofs.Ytalbaopfdejooaa.HullD
open KernA HullA HullB HullC
set_option linter.unusedVariables false
set_option linter.unnecessarySimpa false

def ltB (p q : Pn) : Bool := decide (p.2.1 < q.2.1 ∨ (p.2.1 = q.2.1 ∧ (p.2.2 < q.2.2 ∨ (p.2.2 = q.2.2 ∧ p.1 < q.1))))
def Le (p q : Pn) : Prop := ltB q p = false
theorem ltB_iff {p q : Pn} : ltB p q = true ↔ (p.2.1 < q.2.1 ∨ (p.2.1 = q.2.1 ∧ (p.2.2 < q.2.2 ∨ (p.2.2 = q.2.2 ∧ p.1 < q.1)))) := decide_eq_true_iff
theorem Le_iff {p q : Pn} : Le p q ↔ ¬ (q.2.1 < p.2.1 ∨ (q.2.1 = p.2.1 ∧ (q.2.2 < p.2.2 ∨ (q.2.2 = p.2.2 ∧ q.1 < p.1)))) := decide_eq_false_iff_not
theorem Le.trans {a b c : Pn} (h : Le a b) (k : Le b c) : Le a c := by rw [Le_iff] at *; omega
theorem Le.refl (a : Pn) : Le a a := by rw [Le_iff]; omega
theorem Le.antisymm {a b : Pn} (h : Le a b) (k : Le b a) : a = b := by
  rw [Le_iff] at *
  obtain ⟨a1, a2, a3⟩ := a
  obtain ⟨b1, b2, b3⟩ := b
  simp only at h k
  simp only [Prod.mk.injEq]
  omega
theorem Le.of_lt {a b : Pn} (h : ltB a b = true) : Le a b := by rw [ltB_iff] at h; rw [Le_iff]; omega
theorem Le.total (a b : Pn) : Le a b ∨ Le b a := by rw [Le_iff, Le_iff]; omega

def Srt (l : List Pn) : Prop := l.Pairwise Le
theorem srt_unique : ∀ {a b : List Pn}, Srt a → Srt b → a.Perm b → a = b
  | [], b, _, _, h => (List.nil_perm.1 h).symm
  | x :: a, [], _, _, h => by have := h.length_eq; simp at this
  | x :: a, y :: b, ha, hb, h => by
    obtain ⟨a1, a2⟩ := List.pairwise_cons.1 ha
    obtain ⟨b1, b2⟩ := List.pairwise_cons.1 hb
    have e : x = y := by
      rcases List.mem_cons.1 (h.mem_iff.1 (List.mem_cons_self (a := x) (l := a))) with e | e
      · exact e
      · rcases List.mem_cons.1 (h.mem_iff.2 (List.mem_cons_self (a := y) (l := b))) with e' | e'
        · exact e'.symm
        · exact Le.antisymm (a1 y e') (b1 x e)
    subst e
    rw [srt_unique a2 b2 (List.perm_cons x |>.1 h)]
/-- put in behind all that are not behind it -/
def pin (p : Pn) : List Pn → List Pn
  | [] => [p]
  | q :: l => if ltB p q = true then p :: q :: l else q :: pin p l
theorem pin_perm (p : Pn) : ∀ l, (pin p l).Perm (p :: l)
  | [] => List.Perm.refl _
  | q :: l => by
    unfold pin
    split
    · exact List.Perm.refl _
    · exact ((pin_perm p l).cons q).trans (List.Perm.swap p q l)
theorem pin_srt (p : Pn) : ∀ {l}, Srt l → Srt (pin p l)
  | [], _ => List.pairwise_singleton _ _
  | q :: l, h => by
    obtain ⟨h1, h2⟩ := List.pairwise_cons.1 h
    unfold pin
    split
    · next hp =>
      refine List.pairwise_cons.2 ⟨fun x hx => ?_, h⟩
      rcases List.mem_cons.1 hx with rfl | hx
      · exact Le.of_lt hp
      · exact (Le.of_lt hp).trans (h1 x hx)
    · next hp =>
      refine List.pairwise_cons.2 ⟨fun x hx => ?_, pin_srt p h2⟩
      rcases List.mem_cons.1 ((pin_perm p l).mem_iff.1 hx) with rfl | hx
      · simpa [Le] using hp
      · exact h1 x hx
def srt (l : List Pn) : List Pn := l.foldr pin []
theorem srt_perm : ∀ l, (srt l).Perm l
  | [] => List.Perm.refl _
  | p :: l => (pin_perm p (srt l)).trans ((srt_perm l).cons p)
theorem srt_srt : ∀ l, Srt (srt l)
  | [] => List.Pairwise.nil
  | p :: l => pin_srt p (srt_srt l)
theorem srt_of {l s : List Pn} (h : Srt s) (hp : s.Perm l) : s = srt l := srt_unique h (srt_srt l) (hp.trans (srt_perm l).symm)
theorem srt_len (l : List Pn) : (srt l).length = l.length := (srt_perm l).length_eq
theorem mem_srt {l : List Pn} {x : Pn} : x ∈ srt l ↔ x ∈ l := (srt_perm l).mem_iff

def mrg : List Pn → List Pn → List Pn
  | [], b => b
  | a, [] => a
  | x :: a, y :: b => if ltB y x = true then y :: mrg (x :: a) b else x :: mrg a (y :: b)
termination_by a b => a.length + b.length
theorem mrg_nil (a : List Pn) : mrg a [] = a := by cases a <;> simp [mrg]
theorem mrg_perm (a b : List Pn) : (mrg a b).Perm (a ++ b) := by
  fun_induction mrg a b with
  | case1 b => exact List.Perm.refl _
  | case2 a h => simp
  | case3 x a y b h ih => exact (ih.cons y).trans (List.perm_middle (l₁ := x :: a) (l₂ := b) (a := y)).symm
  | case4 x a y b h ih => exact ih.cons x
theorem mrg_srt (a b : List Pn) (ha : Srt a) (hb : Srt b) : Srt (mrg a b) := by
  fun_induction mrg a b with
  | case1 b => exact hb
  | case2 a h => exact ha
  | case3 x a y b h ih =>
    obtain ⟨b1, b2⟩ := List.pairwise_cons.1 hb
    refine List.pairwise_cons.2 ⟨fun z hz => ?_, ih ha b2⟩
    rcases List.mem_append.1 ((mrg_perm _ _).mem_iff.1 hz) with hz | hz
    · rcases List.mem_cons.1 hz with rfl | hz
      · exact Le.of_lt h
      · exact (Le.of_lt h).trans ((List.pairwise_cons.1 ha).1 z hz)
    · exact b1 z hz
  | case4 x a y b h ih =>
    obtain ⟨a1, a2⟩ := List.pairwise_cons.1 ha
    have hxy : Le x y := by simpa [Le] using h
    refine List.pairwise_cons.2 ⟨fun z hz => ?_, ih a2 hb⟩
    rcases List.mem_append.1 ((mrg_perm _ _).mem_iff.1 hz) with hz | hz
    · exact a1 z hz
    · rcases List.mem_cons.1 hz with rfl | hz
      · exact hxy
      · exact hxy.trans ((List.pairwise_cons.1 hb).1 z hz)
theorem mrg_sorts (a b : List Pn) : mrg (srt a) (srt b) = srt (a ++ b) := srt_of (mrg_srt _ _ (srt_srt a) (srt_srt b)) ((mrg_perm _ _).trans ((srt_perm a).append (srt_perm b)))
theorem mrg_len (a b : List Pn) : (mrg a b).length = a.length + b.length := by rw [(mrg_perm a b).length_eq, List.length_append]
theorem merge_left (A : List Pn) (x y : Pn) (sa sb : List Pn) (h : ltB y x = true) : A ++ mrg (x :: sa) (y :: sb) = (A ++ [y]) ++ mrg (x :: sa) sb := by
  rw [mrg, if_pos h]; simp
theorem merge_right (A : List Pn) (x y : Pn) (sa sb : List Pn) (h : ltB y x = false) : A ++ mrg (x :: sa) (y :: sb) = (A ++ [x]) ++ mrg sa (y :: sb) := by
  rw [mrg, if_neg (by simp [h])]; simp

/-- one is put in: what it has gone by lies behind it -/
def Going (l : List Pn) (j : Nat) (x : Pn) (k : Nat) (L : List Pn) : Prop :=
  ∃ A B, A.length = k ∧ srt (l.take j) = A ++ B ∧ (∀ y ∈ B, ltB x y = true) ∧ L = A ++ x :: (B ++ l.drop (j + 1))
theorem Going.start {l : List Pn} {j : Nat} {x : Pn} (hx : l[j]? = some x) : Going l j x j (srt (l.take j) ++ l.drop j) := by
  obtain ⟨hj, rfl⟩ := List.getElem?_eq_some_iff.1 hx
  refine ⟨srt (l.take j), [], by rw [srt_len, List.length_take]; omega, by simp, by simp, ?_⟩
  rw [List.nil_append, List.drop_eq_getElem_cons hj]
theorem Going.done {l : List Pn} {j : Nat} {x : Pn} {A B : List Pn} (hi : srt (l.take j) = A ++ B) (hA : ∀ y ∈ A, Le y x) (hB : ∀ y ∈ B, ltB x y = true) : A ++ x :: B = srt (l.take j ++ [x]) := by
  have hs := srt_srt (l.take j)
  rw [hi] at hs
  obtain ⟨h1, h2, h3⟩ := List.pairwise_append.1 hs
  refine srt_of ?_ ?_
  · refine List.pairwise_append.2 ⟨h1, List.pairwise_cons.2 ⟨fun y hy => Le.of_lt (hB y hy), h2⟩, fun a ha y hy => ?_⟩
    rcases List.mem_cons.1 hy with rfl | hy
    · exact hA a ha
    · exact h3 a ha y hy
  · refine List.perm_middle.trans ?_
    rw [← hi]
    exact ((srt_perm _).cons x).trans (List.perm_append_comm (l₁ := [x]) (l₂ := l.take j))
theorem Going.zero {l : List Pn} {j : Nat} {x : Pn} {L : List Pn} (h : Going l j x 0 L) : L = srt (l.take j ++ [x]) ++ l.drop (j + 1) := by
  obtain ⟨A, B, hA, hi, hB, rfl⟩ := h
  have e : A = [] := List.eq_nil_of_length_eq_zero hA
  subst e
  rw [← Going.done hi (by simp) hB]
  simp
theorem Going.step {l : List Pn} {j k : Nat} {x : Pn} {L : List Pn} (h : Going l j x (k + 1) L) : ∃ y A C, A.length = k ∧ L = A ++ y :: x :: C ∧ (ltB x y = true → Going l j x k (A ++ x :: y :: C)) ∧ (ltB x y = false → L = srt (l.take j ++ [x]) ++ l.drop (j + 1)) := by
  obtain ⟨A, B, hA, hi, hB, rfl⟩ := h
  have hne : A ≠ [] := by intro e; subst e; simp at hA
  obtain ⟨A', y, rfl⟩ : ∃ A' y, A = A' ++ [y] := ⟨A.dropLast, A.getLast hne, (List.dropLast_concat_getLast hne).symm⟩
  refine ⟨y, A', B ++ l.drop (j + 1), by simpa using hA, by simp, fun hlt => ?_, fun hge => ?_⟩
  · exact ⟨A', y :: B, by simpa using hA, by rw [hi]; simp, fun z hz => by
      rcases List.mem_cons.1 hz with rfl | hz
      · exact hlt
      · exact hB z hz, by simp⟩
  · have hs := srt_srt (l.take j)
    rw [hi] at hs
    have hy : ∀ a ∈ A' ++ [y], Le a x := fun a ha => by
      obtain ⟨h1, _, _⟩ := List.pairwise_append.1 hs
      obtain ⟨_, _, h4⟩ := List.pairwise_append.1 h1
      rcases List.mem_append.1 ha with ha | ha
      · exact (h4 a ha y (by simp)).trans hge
      · rw [List.mem_singleton.1 ha]; exact hge
    rw [← Going.done hi hy hB]
    simp
theorem Going.len {l : List Pn} {j k : Nat} {x : Pn} {L : List Pn} (h : Going l j x k L) (hj : j < l.length) : L.length = l.length := by
  obtain ⟨A, B, hA, hi, hB, rfl⟩ := h
  have := congrArg List.length hi
  rw [srt_len, List.length_take] at this
  simp at this ⊢
  omega
theorem swap1 (A C : List Pn) (x y : Pn) : ((A ++ y :: x :: C).set (A.length + 1) y).set A.length x = A ++ x :: y :: C := by
  induction A with
  | nil => rfl
  | cons a A ih => simpa using ih

/-! ### of each place the one with the least id -/
/-- places in order, each with the least id that any of the points there has -/
def IsPl (l P : List Pn) : Prop := HullA.Ord P ∧ (∀ x ∈ P, x ∈ l ∧ ∀ y ∈ l, at_ y x → x.1 ≤ y.1) ∧ ∀ y ∈ l, ∃ x ∈ P, at_ x y
theorem at_eq {x y : Pn} (h : at_ x y) (h1 : x.1 = y.1) : x = y := by
  obtain ⟨a, b, c⟩ := x
  obtain ⟨d, e, f⟩ := y
  unfold at_ at h
  simp only at h h1
  simp [h1, h.1, h.2]
theorem at_trans {a b c : Pn} (h : at_ a b) (k : at_ b c) : at_ a c := ⟨h.1.trans k.1, h.2.trans k.2⟩
theorem IsPl.sub {l P Q : List Pn} (hP : IsPl l P) (hQ : IsPl l Q) {x : Pn} (hx : x ∈ P) : x ∈ Q := by
  obtain ⟨h1, h2⟩ := hP.2.1 x hx
  obtain ⟨z, hz, hzx⟩ := hQ.2.2 x h1
  obtain ⟨k1, k2⟩ := hQ.2.1 z hz
  have e := at_eq hzx (Int.le_antisymm (k2 x h1 (at_symm hzx)) (h2 z k1 hzx))
  rw [← e]
  exact hz
theorem IsPl.unique {l P Q : List Pn} (hP : IsPl l P) (hQ : IsPl l Q) : P = Q := ord_unique hP.1 hQ.1 fun x => ⟨hP.sub hQ, hQ.sub hP⟩
theorem IsPl.perm {l m P : List Pn} (h : IsPl l P) (hp : l.Perm m) : IsPl m P :=
  ⟨h.1, fun x hx => ⟨hp.mem_iff.1 (h.2.1 x hx).1, fun y hy => (h.2.1 x hx).2 y (hp.mem_iff.2 hy)⟩, fun y hy => h.2.2 y (hp.mem_iff.2 hy)⟩
/-- of the first of points in order -/
theorem IsPl.more {l P : List Pn} {x : Pn} (h : IsPl l P) (hs : ∀ y ∈ l, Le y x) (hx : ∀ y ∈ P, lt y x) : IsPl (l ++ [x]) (P ++ [x]) := by
  refine ⟨List.pairwise_append.2 ⟨h.1, List.pairwise_singleton _ _, fun a ha b hb => by rw [List.mem_singleton.1 hb]; exact hx a ha⟩, fun z hz => ?_, fun y hy => ?_⟩
  · rcases List.mem_append.1 hz with hz | hz
    · refine ⟨List.mem_append_left _ (h.2.1 z hz).1, fun y hy hyz => ?_⟩
      rcases List.mem_append.1 hy with hy | hy
      · exact (h.2.1 z hz).2 y hy hyz
      · rw [List.mem_singleton.1 hy] at hyz
        exact absurd (hx z hz) (at_not (at_symm hyz))
    · rw [List.mem_singleton.1 hz]
      refine ⟨by simp, fun y hy hyz => ?_⟩
      rcases List.mem_append.1 hy with hy | hy
      · obtain ⟨a, ha, hay⟩ := h.2.2 y hy
        exact absurd (hx a ha) (at_not (at_trans hay hyz))
      · rw [List.mem_singleton.1 hy]
        exact Int.le_refl _
  · rcases List.mem_append.1 hy with hy | hy
    · obtain ⟨a, ha, hay⟩ := h.2.2 y hy
      exact ⟨a, List.mem_append_left _ ha, hay⟩
    · rw [List.mem_singleton.1 hy]
      exact ⟨x, by simp, at_refl x⟩
theorem IsPl.again {l P : List Pn} {x z : Pn} (h : IsPl l P) (hs : ∀ y ∈ l, Le y x) (hz : z ∈ P) (hzx : at_ z x) : IsPl (l ++ [x]) P := by
  refine ⟨h.1, fun a ha => ⟨List.mem_append_left _ (h.2.1 a ha).1, fun y hy hya => ?_⟩, fun y hy => ?_⟩
  · rcases List.mem_append.1 hy with hy | hy
    · exact (h.2.1 a ha).2 y hy hya
    · rw [List.mem_singleton.1 hy] at hya ⊢
      have := hs a (h.2.1 a ha).1
      rw [Le_iff] at this
      unfold at_ at hya
      omega
  · rcases List.mem_append.1 hy with hy | hy
    · exact h.2.2 y hy
    · rw [List.mem_singleton.1 hy]
      exact ⟨z, hz, hzx⟩
theorem IsPl.nil : IsPl [] [] := ⟨List.Pairwise.nil, fun _ h => by (cases h), fun _ h => by (cases h)⟩
/-- the last place, where points are in order -/
theorem IsPl.last {l P : List Pn} {x z : Pn} (h : IsPl l P) (hs : ∀ y ∈ l, Le y x) (hz : P.getLast? = some z) : (lt z x ∧ ∀ y ∈ P, lt y x) ∨ at_ z x := by
  have hzP := List.mem_of_getLast? hz
  have h1 := hs z (h.2.1 z hzP).1
  rw [Le_iff] at h1
  rcases lt_or z x with k | k | k
  · refine Or.inl ⟨k, fun y hy => ?_⟩
    obtain ⟨Q, rfl⟩ : ∃ Q, P = Q ++ [z] := by
      have hne : P ≠ [] := List.ne_nil_of_mem hzP
      refine ⟨P.dropLast, ?_⟩
      have e : P.getLast hne = z := by rw [List.getLast?_eq_some_getLast hne] at hz; exact Option.some.inj hz
      rw [← e, List.dropLast_concat_getLast]
    rcases List.mem_append.1 hy with hy | hy
    · exact lt_trans ((List.pairwise_append.1 h.1).2.2 y hy z (by simp)) k
    · rw [List.mem_singleton.1 hy]; exact k
  · exact Or.inr k
  · unfold lt at k
    omega

/-- the hull of points: of none there is none -/
def HullOf (l h : List Pn) : Prop := ∃ P, IsPl l P ∧ ((P = [] ∧ h = []) ∨ Round P h)
theorem HullOf.unique {l a b : List Pn} (ha : HullOf l a) (hb : HullOf l b) : a = b := by
  obtain ⟨P, h1, h2⟩ := ha
  obtain ⟨Q, k1, k2⟩ := hb
  have e := h1.unique k1
  subst e
  rcases h2 with ⟨e1, e2⟩ | h2
  · rcases k2 with ⟨_, e4⟩ | ⟨t, r, rfl, k3, _⟩
    · rw [e2, e4]
    · rw [e1] at k3; cases k3
  · rcases k2 with ⟨e3, e4⟩ | k2
    · obtain ⟨t, r, rfl, h3, _⟩ := h2
      rw [e3] at h3; cases h3
    · exact h2.unique k2
theorem HullOf.perm {l m h : List Pn} (hh : HullOf l h) (hp : l.Perm m) : HullOf m h := let ⟨P, h1, h2⟩ := hh; ⟨P, h1.perm hp, h2⟩
/-- what the code makes of the places -/
theorem HullOf.code {l P : List Pn} (h : IsPl l P) : HullOf l (if P.length < 2 then P else hullP P) := by
  refine ⟨P, h, ?_⟩
  split
  · next hl =>
    match P, hl with
    | [], _ => exact Or.inl ⟨rfl, rfl⟩
    | [a], _ => exact Or.inr (round_one a)
    | a :: b :: r, hl => simp at hl; omega
  · exact Or.inr (hull_round2 h.1 (by omega))
end Go.Proofs.Ytalbaopfdejooaa.HullD

