import Derived.Test.YtalbaopfdejooaaHullY
/- Chapter 41, plain points: what lies in a hull that stands at none of its corners. -/
namespace Go.Proofs.Ytalbaopfdejooaa.HullAa
open AreaA HullC HullD HullH HullN HullP HullQ HullV HullW HullX HullY
open AreaB (nxi)
open HullA (lt at_ D Low lt_irr lt_asym lt_or)
open HullB (Inner Bt Wi High inner_iff)
set_option linter.unusedVariables false

theorem bary (a b c u v p : Pn) : D a b c * D u v p = D b c p * D u v a + D c a p * D u v b + D a b p * D u v c := by unfold D KernA.crz; grind
/-- who lies between some of them lies left of a side as they do -/
theorem left_inner {h : List Pn} {u v p : Pn} (hl : ∀ x ∈ h, 0 ≤ D u v x) (hi : Inner h p) : 0 ≤ D u v p := by
  rcases hi with ⟨a, ha, c, hc, h1, h2, h3⟩ | ⟨a, ha, b, hb, c, hc, _, _, _, _, _, hw⟩
  · have k1 := hl a ha
    have k2 := hl c hc
    unfold lt at h1 h2
    by_cases hx : a.2.1 < c.2.1
    · refine HullA.nn_of (a := c.2.1 - a.2.1) (by omega) ?_
      have e : (c.2.1 - a.2.1) * D u v p = (c.2.1 - p.2.1) * D u v a + (p.2.1 - a.2.1) * D u v c - (v.2.1 - u.2.1) * D a p c := by unfold D KernA.crz; grind
      rw [e, h3, Int.mul_zero, Int.sub_zero]
      exact Int.add_nonneg (Int.mul_nonneg (by omega) k1) (Int.mul_nonneg (by omega) k2)
    · refine HullA.nn_of (a := c.2.2 - a.2.2) (by omega) ?_
      have e : (c.2.2 - a.2.2) * D u v p = (c.2.2 - p.2.2) * D u v a + (p.2.2 - a.2.2) * D u v c - (v.2.2 - u.2.2) * D a p c := by unfold D KernA.crz; grind
      rw [e, h3, Int.mul_zero, Int.sub_zero]
      exact Int.add_nonneg (Int.mul_nonneg (by omega) k1) (Int.mul_nonneg (by omega) k2)
  · have k1 := hl a ha
    have k2 := hl b hb
    have k3 := hl c hc
    have e := bary a b c u v p
    rcases hw with ⟨w0, w1, w2, w3⟩ | ⟨w0, w1, w2, w3⟩
    · refine HullA.nn_of w0 ?_
      rw [e]
      exact Int.add_nonneg (Int.add_nonneg (Int.mul_nonneg w2 k1) (Int.mul_nonneg w3 k2)) (Int.mul_nonneg w1 k3)
    · refine HullA.nn_of (a := - D a b c) (by omega) ?_
      have e2 : - D a b c * D u v p = (- D b c p) * D u v a + (- D c a p) * D u v b + (- D a b p) * D u v c := by
        rw [Int.neg_mul, e]; grind
      rw [e2]
      exact Int.add_nonneg (Int.add_nonneg (Int.mul_nonneg (by omega) k1) (Int.mul_nonneg (by omega) k2)) (Int.mul_nonneg (by omega) k3)
theorem adj_cons {x a b : Pn} {l : List Pn} (h : Adj l a b) : Adj (x :: l) a b := by
  obtain ⟨A, B, rfl⟩ := h
  exact ⟨x :: A, B, rfl⟩
/-- seen from t, it lies between two neighbours -/
theorem fan {t p : Pn} : ∀ {r : List Pn} {a z : Pn}, r.head? = some a → r.getLast? = some z → 0 ≤ D t a p → D t z p ≤ 0 → 2 ≤ r.length → ∃ u v, Adj r u v ∧ 0 ≤ D t u p ∧ D t v p ≤ 0
  | [], _, _, h, _, _, _, _ => by cases h
  | [x], _, _, _, _, _, _, h => by simp at h
  | x :: y :: r, a, z, h, hz, h1, h2, _ => by
    simp only [List.head?_cons, Option.some.injEq] at h
    subst h
    by_cases k : D t y p ≤ 0
    · exact ⟨x, y, ⟨[], r, rfl⟩, h1, k⟩
    · rw [List.getLast?_cons_cons] at hz
      cases r with
      | nil =>
        simp only [List.getLast?_singleton, Option.some.injEq] at hz
        subst hz
        exact absurd h2 k
      | cons w r =>
        obtain ⟨u, v, h3, h4⟩ := fan (r := y :: w :: r) rfl hz (by omega) h2 (by simp)
        exact ⟨u, v, adj_cons h3, h4⟩
theorem adj_get {l : List Pn} {a b : Pn} (h : Adj l a b) : ∃ i, l[i]? = some a ∧ l[i + 1]? = some b := by
  obtain ⟨A, B, rfl⟩ := h
  refine ⟨A.length, by simp, ?_⟩
  rw [List.getElem?_append_right (by omega)]
  simp
theorem head_lt {P : List Pn} (hs : HullA.Ord P) {t x : Pn} (ht : P.head? = some t) (hx : x ∈ P) (hne : x ≠ t) : lt t x := by
  cases P with
  | nil => cases ht
  | cons a P =>
    simp only [List.head?_cons, Option.some.injEq] at ht
    subst ht
    rcases List.mem_cons.1 hx with h | h
    · exact absurd h hne
    · exact (List.pairwise_cons.1 hs).1 x h
/-- who lies left of all sides, at no corner, lies between some -/
theorem left_in {P h : List Pn} {p : Pn} (hs : HullA.Ord P) (hr : Round P h) (h3 : 3 ≤ h.length) (hL : ∀ (i : Nat) (a b : Pn), h[i]? = some a → h[nxi h.length i]? = some b → 0 ≤ D a b p) (hn : ∀ x ∈ h, ¬ at_ x p) : Inner h p := by
  obtain ⟨t, r, rfl, ht, hpw, hm⟩ := hr
  simp only [List.length_cons] at h3
  have hne : r ≠ [] := by intro e; subst e; simp at h3
  have d1 := hL 0 t (r.head hne) rfl (by
    have e : nxi (t :: r).length 0 = 1 := by unfold nxi; simp only [List.length_cons]; rw [if_pos (by omega)]
    rw [e, List.getElem?_cons_succ, ← List.head?_eq_getElem?, List.head?_eq_some_head hne])
  have d2 := hL r.length (r.getLast hne) t (by
    obtain ⟨n, hn⟩ : ∃ n, r.length = n + 1 := ⟨r.length - 1, by omega⟩
    rw [hn, List.getElem?_cons_succ, show n = r.length - 1 by omega, ← List.getLast?_eq_getElem?, List.getLast?_eq_some_getLast hne]) (by
    have e : nxi (t :: r).length r.length = 0 := by unfold nxi; simp only [List.length_cons]; rw [if_neg (by omega)]
    rw [e]; rfl)
  rw [HullA.D_swap] at d2
  obtain ⟨u, v, huv, k1, k2⟩ := fan (r := r) (List.head?_eq_some_head hne) (List.getLast?_eq_some_getLast hne) d1 (by omega) (by omega)
  obtain ⟨i, hi, hj⟩ := adj_get huv
  have hlt := (List.getElem?_eq_some_iff.1 hj).1
  have d3 := hL (i + 1) u v (by rw [List.getElem?_cons_succ]; exact hi) (by
    have e : nxi (t :: r).length (i + 1) = i + 1 + 1 := by unfold nxi; simp only [List.length_cons]; rw [if_pos (by omega)]
    rw [e, List.getElem?_cons_succ]; exact hj)
  have hu := List.mem_of_getElem? hi
  have hv := List.mem_of_getElem? hj
  have d0 : 0 < D t u v := by
    obtain ⟨A, B, rfl⟩ := huv
    have := (List.pairwise_append.1 hpw).2.1
    exact (List.pairwise_cons.1 this).1 v (by simp)
  have tu := head_lt hs ht ((hm u).1 hu).1 ((hm u).1 hu).2.1
  have tv := head_lt hs ht ((hm v).1 hv).1 ((hm v).1 hv).2.1
  have nt := hn t (by simp)
  have nu := hn u (List.mem_cons_of_mem _ hu)
  have nv := hn v (List.mem_cons_of_mem _ hv)
  have s1 : D v t p = - D t v p := HullA.D_swap ..
  have s2 : D v u p = - D u v p := HullA.D_swap ..
  have s3 : D u t p = - D t u p := HullA.D_swap ..
  have s4 : D t v u = - D t u v := HullA.D_neg ..
  refine Or.inr ?_
  rcases lt_or u v with k | k | k
  · exact ⟨t, by simp, u, by simp [hu], v, by simp [hv], tu, k, nt, nu, nv, Or.inl ⟨d0, k1, d3, by omega⟩⟩
  · rw [HullA.D_at2 k, (HullA.D_self t v).2.1] at d0
    omega
  · exact ⟨t, by simp, v, by simp [hv], u, by simp [hu], tv, k, nt, nv, nu, Or.inr ⟨by omega, by omega, by omega, by omega⟩⟩
theorem inner_three {t z p : Pn} (htz : lt t z) (hi : Inner [t, z] p) : Bt t z p := by
  rcases hi with ⟨a, ha, c, hc, h1, h2, h3⟩ | ⟨a, ha, b, hb, c, hc, h1, h2, _⟩
  · have hac := HullA.lt_trans h1 h2
    simp only [List.mem_cons, List.not_mem_nil, or_false] at ha hc
    rcases ha with rfl | rfl <;> rcases hc with rfl | rfl
    · exact (lt_irr hac).elim
    · exact ⟨h1, h2, h3⟩
    · exact (lt_asym hac htz).elim
    · exact (lt_irr hac).elim
  · exfalso
    have hac := HullA.lt_trans h1 h2
    simp only [List.mem_cons, List.not_mem_nil, or_false] at ha hb hc
    rcases ha with rfl | rfl <;> rcases hb with rfl | rfl <;> rcases hc with rfl | rfl <;> first | exact lt_irr h1 | exact lt_irr h2 | exact lt_irr hac | exact lt_asym h1 htz | exact lt_asym h2 htz
/-- what Has tells of a place where no corner stands -/
theorem inH_in {L h : List Pn} {p : Pn} (hh : HullOf L h) (hl : ∀ x ∈ L, lie x = true) (hp : lie p = true) (hn : ∀ x ∈ h, ¬ at_ x p) : inH h p = true ↔ Inner h p := by
  have lh : ∀ x ∈ h, lie x = true := fun x hx => hl x (HullL.hull_sub hh x hx)
  obtain ⟨P, hP, ⟨_, rfl⟩ | hr⟩ := hh
  · rw [inH_nil]
    constructor
    · intro h; cases h
    · rintro (⟨a, ha, _⟩ | ⟨a, ha, _⟩) <;> cases ha
  · have hsub := HullL.round_sub hr
    by_cases h3 : 3 ≤ h.length
    · rw [inH_three h3, leftB_iff]
      constructor
      · intro hL
        refine left_in hP.1 hr h3 (fun i a b ha hb => ?_) hn
        have k := hL i a b ha hb
        have := tD_neg (lh a (List.mem_of_getElem? ha)) (lh b (List.mem_of_getElem? hb)) hp
        omega
      · intro hi i a b ha hb
        have h2 : 2 ≤ P.length := by
          have := HullL.nodup_len (a := h) (HullL.hull_nodup ⟨P, hP, Or.inr hr⟩) hsub
          omega
        have e : h = hullP P := Round.unique hr (hull_round2 hP.1 h2)
        have k := left_inner (u := a) (v := b) (h := h) (p := p) (fun x hx => by
          rw [e] at ha hb
          exact hull_left hP.1 h2 ha hb x (hsub x hx)) hi
        have := tD_neg (lh a (List.mem_of_getElem? ha)) (lh b (List.mem_of_getElem? hb)) hp
        omega
    · obtain ⟨t, r, rfl, ht, hpw, hm⟩ := hr
      match r, h3, hm with
      | [], _, _ =>
        rw [inH_one]
        have lt_ := lh t (by simp)
        rw [bz_eq lt_ lt_ hp]
        constructor
        · rintro ⟨_, h1, h2⟩
          exact (hn t (by simp) ⟨by omega, by omega⟩).elim
        · rintro (⟨a, ha, c, hc, h1, h2, _⟩ | ⟨a, ha, b, hb, c, hc, h1, h2, _⟩)
          · rw [List.mem_singleton.1 ha] at h1
            rw [List.mem_singleton.1 hc] at h2
            exact (lt_asym h1 h2).elim
          · rw [List.mem_singleton.1 ha, List.mem_singleton.1 hb] at h1
            exact (lt_irr h1).elim
      | [z], _, hm =>
        have hz := (hm z).1 (by simp)
        have htz := head_lt hP.1 ht hz.1 hz.2.1
        have lt_ := lh t (by simp)
        have lz := lh z (by simp)
        rw [inH_two, bz_eq lt_ lz hp]
        have s := HullA.D_swap t z p
        constructor
        · rintro ⟨h0, h1, h2⟩
          exact Or.inl ⟨t, by simp, z, by simp, bt_of htz (hn z (by simp)) (hn t (by simp)) (by omega) (by omega) (by omega)⟩
        · intro hi
          obtain ⟨_, _, _, h1, h2, h3⟩ := of_bt (inner_three htz hi)
          exact ⟨by omega, by omega, by omega⟩
      | _ :: _ :: _, h3, _ => exact absurd (by simp) h3
theorem inH_at {h : List Pn} {p q : Pn} (k : at_ q p) : inH h p = inH h q := by
  obtain ⟨i, x, y⟩ := p
  obtain ⟨j, x', y'⟩ := q
  unfold at_ at k
  simp only at k
  obtain ⟨rfl, rfl⟩ := k
  rcases h with _ | ⟨a, _ | ⟨b, _ | ⟨c, r⟩⟩⟩
  · rw [inH_nil, inH_nil]
  · rw [inH_one, inH_one]; rfl
  · rw [inH_two, inH_two]; rfl
  · rw [inH_three (by simp), inH_three (by simp)]; rfl
/-- with an id above all others it is a corner just if it lies outside -/
theorem has_out {L h M : List Pn} {p : Pn} (hh : HullOf L h) (hl : ∀ x ∈ L, lie x = true) (hp : lie p = true) (hid : ∀ x ∈ h, x.1 < p.1) (hm : HullOf (h ++ [p]) M) : inH h p = true ↔ p ∉ M := by
  by_cases hc : ∃ q ∈ h, at_ q p
  · obtain ⟨q, hq, hqp⟩ := hc
    have e1 : inH h p = true := by
      rw [inH_at hqp]
      exact inH_all (HullS.hull_hull hh) (fun x hx => hl x (HullL.hull_sub hh x hx)) hq
    refine ⟨fun _ hpm => ?_, fun _ => e1⟩
    obtain ⟨P, hP, ⟨_, rfl⟩ | hr⟩ := hm
    · cases hpm
    · have := (hP.2.1 p (HullL.round_sub hr p hpm)).2 q (by simp [hq]) hqp
      have := hid q hq
      omega
  · have hn : ∀ x ∈ h, ¬ at_ x p := fun x hx k => hc ⟨x, hx, k⟩
    rw [inH_in hh hl hp hn]
    obtain ⟨P0, hP0, hr0⟩ := hh
    have hord : ∀ x ∈ h, ∀ y ∈ h, at_ x y → x = y := by
      rcases hr0 with ⟨_, rfl⟩ | hr0
      · intro x hx; cases hx
      · intro x hx y hy k
        exact HullA.Ord.at hP0.1 (HullL.round_sub hr0 x hx) (HullL.round_sub hr0 y hy) k
    obtain ⟨P, hP, hr⟩ := hm
    have hpP : p ∈ P := by
      obtain ⟨x, hx, k⟩ := hP.2.2 p (by simp)
      rcases List.mem_append.1 (hP.2.1 x hx).1 with h' | h'
      · exact (hn x h' k).elim
      · rw [← List.mem_singleton.1 h']; exact hx
    have hsub : ∀ a ∈ h, a ∈ P := fun a ha => by
      obtain ⟨x, hx, k⟩ := hP.2.2 a (by simp [ha])
      rcases List.mem_append.1 (hP.2.1 x hx).1 with h' | h'
      · rw [← hord x h' a ha k]; exact hx
      · rw [List.mem_singleton.1 h'] at k
        exact (hn a ha (HullA.at_symm k)).elim
    have hback : ∀ a ∈ P, ¬ at_ a p → a ∈ h := fun a ha k => by
      rcases List.mem_append.1 (hP.2.1 a ha).1 with h' | h'
      · exact h'
      · rw [List.mem_singleton.1 h'] at k
        exact (k (HullA.at_refl p)).elim
    have hii : Inner h p ↔ Inner P p := by
      constructor
      · rintro (⟨a, ha, c, hc, k⟩ | ⟨a, ha, b, hb, c, hc, k⟩)
        · exact Or.inl ⟨a, hsub a ha, c, hsub c hc, k⟩
        · exact Or.inr ⟨a, hsub a ha, b, hsub b hb, c, hsub c hc, k⟩
      · rintro (⟨a, ha, c, hc, k⟩ | ⟨a, ha, b, hb, c, hc, k⟩)
        · exact Or.inl ⟨a, hback a ha (HullB.lt_ne k.1).1, c, hback c hc (HullB.lt_ne k.2.1).2, k⟩
        · exact Or.inr ⟨a, hback a ha k.2.2.1, b, hback b hb k.2.2.2.1, c, hback c hc k.2.2.2.2.1, k⟩
    rw [hii]
    rcases hr with ⟨rfl, _⟩ | ⟨t, r, rfl, ht, hpw, hmm⟩
    · cases hpP
    · rw [List.mem_cons, hmm]
      by_cases e : p = t
      · subst e
        refine ⟨fun hi => ?_, fun h => absurd (Or.inl rfl) h⟩
        exact absurd (fun a ha c hc k => by
          by_cases e' : a = p
          · subst e'; exact (lt_irr k).elim
          · exact (lt_asym k (head_lt hP.1 ht ha e')).elim) (inner_iff P p |>.1 hi).1
      · constructor
        · rintro hi (h | h)
          · exact e h
          · exact h.2.2 hi
        · intro h
          exact Classical.byContradiction fun k => h (Or.inr ⟨hpP, e, k⟩)
end Go.Proofs.Ytalbaopfdejooaa.HullAa

/- Chapter 41: the law HullHas. -/
namespace Go.Proofs.Ytalbaopfdejooaa.HullAb
open Go.RowKit Base Slices RowsA KernA KernE AreaA HullC HullD HullE HullF HullG HullH HullI HullJ HullK HullL HullR HullS HullT HullU HullV HullW HullY HullAa Quiet
set_option linter.unusedVariables false
set_option linter.unusedSimpArgs false

theorem gd_top {i x y : Int} (h : gd (i, x, y) = true) : gd (2147483647, x, y) = true := by
  unfold gd at *
  rw [Bool.and_eq_true] at *
  exact ⟨(show inI 2147483647 = true from by decide), h.2⟩
theorem gd_id {p : Pn} (h : gd p = true) : p.1 ≤ 2147483647 := by
  unfold gd inI at h
  rw [Bool.and_eq_true, decide_eq_true_iff] at h
  exact h.1.2
theorem take_mem {M : List Pn} {k : Nat} {z q : Pn} (h : M[k]? = some z) : decide (q ∈ M.take (k + 1)) = (decide (q ∈ M.take k) || decide (z = q)) := by
  rw [Bool.eq_iff_iff, Bool.or_eq_true, decide_eq_true_iff, decide_eq_true_iff, decide_eq_true_iff, mem_take_succ h]
  constructor
  · rintro (h | h)
    · exact Or.inl h
    · exact Or.inr h.symm
  · rintro (h | h)
    · exact Or.inl h
    · exact Or.inr h.symm
set_option maxRecDepth 100000 in
set_option maxHeartbeats 16000000 in
theorem has_any (l0 : List Pn) (i x y : Int) (va : Value) (w : World) (hva : Come EPt w va l0) :
    Calls Try.prog 5 #[va, .agg #[.int .i64 i, .int .i64 x, .int .i64 y]] w fun e w' => e = .returned (.bool true) ∧ Fr Nil w w' := by
  have HB := Lib.hid (Bk.new w 34 #[.int .i64 i, .int .i64 x, .int .i64 y])
  have HF := Lib.hid ((Fr.refl Nil w).alloc (.cells #[.int .i64 i, .int .i64 x, .int .i64 y] 34))
  have VA := Lib.hid (hva.fr HF.out)
  have KLV := Lib.hid (fun W => lives41 W)
  obtain ⟨W0, hW0⟩ : ∃ W0, (w.alloc (.cells #[.int .i64 i, .int .i64 x, .int .i64 y] 34)) = W0 := ⟨_, rfl⟩
  rw [hW0] at HB HF VA
  have HW0 := Lib.hid hW0
  clear hva hW0
  go_enter Try.func5, Try.ntmps5
  go_wp2_with fail
  rw [HW0.out]
  refine (few12c VA.out).mono ?_
  rintro e w1 ⟨u1, rfl, hf, ho⟩
  have SL := Lib.hid (ho.sl EPt_ok)
  replace HF := Lib.hid (HF.out.trans hf)
  replace HB := Lib.hid (HB.out.fr hf id)
  clear hf ho VA
  have hll : (l0.take 12).length ≤ 12 := by rw [List.length_take]; omega
  generalize l0.take 12 = l at *
  go_wp2_with fail
  refine (few12 hll SL.out).mono ?_
  rintro e w2 ⟨u2, rfl, hf, ho⟩
  have S2 := Lib.hid (ho.sl EPt_ok)
  replace SL := Lib.hid (SL.out.fr hf)
  replace HF := Lib.hid (HF.out.trans hf)
  replace HB := Lib.hid (HB.out.fr hf id)
  clear hf ho
  rcases bad_or l with hb | hg
  · have ZA := Lib.hid (show l.all gd = false by obtain ⟨p, hp, hq⟩ := hb; exact List.all_eq_false.2 ⟨p, hp, by simp [hq]⟩)
    have BAD := Lib.hid hb
    clear hb
    go_wp2_with fail
    refine (Of_bad l _ _ (by omega) S2.out BAD.out).mono ?_
    rintro e wz1 ⟨rfl, hf⟩
    replace SL := Lib.hid (SL.out.fr hf)
    replace HB := Lib.hid (HB.out.fr hf id)
    replace HF := Lib.hid (HF.out.trans hf)
    clear hf
    go_wp2_with fail
    have KG := allgood_any l u1 wz1 (by omega) SL.out
    rw [ZA.out] at KG
    refine (KG).mono ?_
    rintro e wz2 ⟨rfl, hf⟩
    replace SL := Lib.hid (SL.out.fr hf)
    replace HB := Lib.hid (HB.out.fr hf id)
    replace HF := Lib.hid (HF.out.trans hf)
    clear hf
    go_wp2_with fail
    refine (KLV.out _).mono ?_
    rintro e wz3 ⟨rfl, hf⟩
    replace SL := Lib.hid (SL.out.fr hf)
    replace HB := Lib.hid (HB.out.fr hf id)
    replace HF := Lib.hid (HF.out.trans hf)
    clear hf
    go_wp2_with fail
    go_ret
    exact ⟨rfl, HF.out⟩
  · have ZA := Lib.hid (show l.all gd = true from List.all_eq_true.2 hg)
    have GL := Lib.hid hg
    clear hg
    go_wp2_with fail
    refine (Of_good l _ _ (by omega) S2.out GL.out).mono ?_
    rintro e wz1 ⟨uh, h, rfl, hf, ho, hh⟩
    have NH := Lib.hid (show ∀ g, uh.ownBlock = some g → g ≠ w.heap.size from fun g hg e => by have k1 := (ho.lt g hg).1; have k2 := HB.out.lt; omega)
    replace SL := Lib.hid (SL.out.fr hf)
    replace HB := Lib.hid (HB.out.fr hf id)
    replace HF := Lib.hid (HF.out.trans hf)
    have SH := Lib.hid (ho.sl EPt_ok)
    clear ho hf
    have HH := Lib.hid hh
    have hhl : h.length ≤ 12 := Nat.le_trans (hull_len hh) hll
    clear hh S2
    go_wp2_with fail
    have KG := allgood_any l u1 wz1 (by omega) SL.out
    rw [ZA.out] at KG
    refine (KG).mono ?_
    rintro e wz2 ⟨rfl, hf⟩
    replace SL := Lib.hid (SL.out.fr hf)
    replace SH := Lib.hid (SH.out.fr hf)
    replace HB := Lib.hid (HB.out.fr hf id)
    replace HF := Lib.hid (HF.out.trans hf)
    clear hf
    clear KG
    obtain ⟨c0, c1, c2, f0, f1, f2⟩ := HB.out.c3
    go_wp2_with fail
    obtain ⟨gp, hgp⟩ : ∃ z, gd (i, x, y) = z := ⟨_, rfl⟩
    have KP := rgood_any (i, x, y) wz2
    rw [hgp] at KP
    dsimp only at KP
    have GP := Lib.hid hgp
    clear hgp
    refine (KP).mono ?_
    rintro e wz3 ⟨rfl, hf⟩
    replace SL := Lib.hid (SL.out.fr hf)
    replace SH := Lib.hid (SH.out.fr hf)
    replace HB := Lib.hid (HB.out.fr hf id)
    replace HF := Lib.hid (HF.out.trans hf)
    clear hf
    clear KP c0 c1 c2 f0 f1 f2
    obtain ⟨c0, c1, c2, f0, f1, f2⟩ := HB.out.c3
    rcases gp with _ | _
    · have KO := Lib.hid (Has_odd h (i, x, y) uh wz3 GP.out)
      go_wp2_with fail
      refine (KO.out).mono ?_
      rintro e wz11 ⟨rfl, hf⟩
      replace HB := Lib.hid (HB.out.fr hf id)
      replace HF := Lib.hid (HF.out.trans hf)
      clear hf
      clear c0 c1 c2 f0 f1 f2
      go_wp2_with fail
      refine (KLV.out _).mono ?_
      rintro e wz12 ⟨rfl, hf⟩
      replace HB := Lib.hid (HB.out.fr hf id)
      replace HF := Lib.hid (HF.out.trans hf)
      clear hf
      go_wp2_with fail
      go_ret
      exact ⟨rfl, HF.out⟩
    · have GQ := Lib.hid (gd_top GP.out)
      have LQ := Lib.hid (show ∀ z ∈ h ++ [((2147483647, x, y) : Pn)], lie z = true from fun z hz => by
        rcases List.mem_append.1 hz with k | k
        · exact gd_lie (GL.out z (hull_sub HH.out z k))
        · rw [List.mem_singleton.1 k]; exact gd_lie GQ.out)
      have HCK := Lib.hid (show chk h = true from chk_iff.2 ⟨fun p hp => GL.out p (hull_sub HH.out p hp), hull_hull HH.out⟩)
      obtain ⟨W1, hW1⟩ : ∃ W1, wz3.setCell ⟨w.heap.size, 0, none⟩ (.int .i64 2147483647) = W1 := ⟨_, rfl⟩
      have HB1 := Lib.hid (show Bk W1 w.heap.size 34 #[.int .i64 2147483647, .int .i64 x, .int .i64 y] by rw [← hW1]; exact HB.out.put 0 _)
      have HF1 := Lib.hid (show Fr Nil w W1 by rw [← hW1]; exact HF.out.setCell (fun k => absurd k (by dsimp only; omega)) _)
      have SH1 := Lib.hid (show Sl EPt W1 uh h by rw [← hW1]; exact SH.out.frS (S := fun k => k = w.heap.size) (Fr.setCell (S := fun k => k = w.heap.size) (Fr.refl _ _) (p := ⟨w.heap.size, 0, none⟩) (fun _ => rfl) _) (fun g hg e => NH.out g hg e))
      have HW1 := Lib.hid hW1
      have KF := Lib.hid (fun W (k : Sl EPt W uh h) => few20 (by omega) k)
      have HL12 := Lib.hid (show (h ++ [((2147483647, x, y) : Pn)]).length ≤ 13 by simp; omega)
      clear hW1
      go_upto_region 6 with fail
      rw [HW1.out]
      replace HB := HB1
      replace HF := HF1
      replace SH := SH1
      clear HB1 HF1 SH1 HW1 SL c0 c1 c2 f0 f1 f2
      obtain ⟨c0, c1, c2, f0, f1, f2⟩ := HB.out.c3
      go_cut [7, 8] (fun v7 v8 wx => v8 = .bool false ∧ ∃ M : List Pn, Sl EPt wx v7 M ∧ M.length ≤ 13 ∧ HullOf (h ++ [((2147483647, x, y) : Pn)]) M ∧ Fr Nil W1 wx)
      case first =>
        go_region_held3 (fun w' => w'.cell? ⟨w.heap.size, 0, none⟩ = some (.int .i64 2147483647) ∧ w'.cell? ⟨w.heap.size, 1, none⟩ = some (.int .i64 x) ∧ w'.cell? ⟨w.heap.size, 2, none⟩ = some (.int .i64 y)) (first | (go_keep; done))
          (first
            | (go_at_call 8; (with_reducible refine (KF.out _ (SH.out.fr (by (repeat' (with_reducible first | refine Fr.setCell ?_ (fun hlt => absurd hlt (by dsimp only; omega)) _ | refine Fr.alloc ?_ _ | refine Fr.drewN ?_ _ | refine Fr.drew ?_ | exact Fr.refl _ _))))).mono ?_); rintro e wa ⟨ua, rfl, hfa, hoa⟩; have F1 : Fr Nil W1 wa := Fr.trans (by (repeat' (with_reducible first | refine Fr.setCell ?_ (fun hlt => absurd hlt (by dsimp only; omega)) _ | refine Fr.alloc ?_ _ | refine Fr.drewN ?_ _ | refine Fr.drew ?_ | exact Fr.refl _ _))) hfa; have HFA := Lib.hid hfa; have HOA := Lib.hid (show Own EPt wa W1.heap.size ua h from hoa.weaken (by simp)); clear hfa hoa; obtain ⟨c0, c1, c2, f0, f1, f2⟩ := (HB.out.fr F1 id).c3)
            | (rw [if_pos (by rfl)]; refine Slices.wp_app EPt_ok (.tmp 40) (.tmp 42) 22 rfl rfl W1.heap.size _ _ h [((2147483647, x, y) : Pn)] rfl (by first | exact HOA.out | exact HOA.out.alloc _) rfl (by first | exact (one_sl' ((2147483647, x, y) : Pn) rfl).come | exact (Sl.fr (one_sl' ((2147483647, x, y) : Pn) rfl) (((Fr.refl Nil _).drew).trans HFA.out)).come) (by simp; omega) (by first | exact F1.size | exact (F1.alloc _).size) ?_; intro v3 w3 h3 f3 b3 m3; have F3 : Fr Nil W1 w3 := Fr.then (by first | exact F1 | exact F1.alloc _) f3 (fun i hi hlt => by have := (HOA.out.lt i hi).1; omega); obtain ⟨c0, c1, c2, f0, f1, f2⟩ := (HB.out.fr F3 id).c3)
            | (go_at_call 14; (with_reducible refine (rof_any (h ++ [((2147483647, x, y) : Pn)]) _ _ (by simp; omega) LQ.out (h3.sl EPt_ok)).mono ?_); rintro e wb ⟨ur, M, rfl, hfb, hob, hM⟩; have F4 := F3.trans hfb; obtain ⟨c0, c1, c2, f0, f1, f2⟩ := (HB.out.fr F4 id).c3))
        all_goals
          go_wp2_with fail
          go_meet
          exact ⟨rfl, M, hob.sl EPt_ok, Nat.le_trans (hull_len hM) HL12.out, hM, F4⟩
      case rest =>
        obtain ⟨rfl, M, hsm, hml, hM, hf⟩ := hcut
        have SM := Lib.hid hsm
        have HM := Lib.hid hM
        replace HB := Lib.hid (HB.out.fr hf id)
        replace SH := Lib.hid (SH.out.fr hf)
        replace HF := Lib.hid (HF.out.trans hf)
        clear hsm hM hf c0 c1 c2 f0 f1 f2
        go_wp2_with fail
        go_loopw [8, 9] (fun v8 i wr => ∃ (k : Nat) (b : Bool), k ≤ M.length ∧ i = .int .i64 k ∧ v8 = .bool b ∧ decide (((2147483647, x, y) : Pn) ∈ M.take k) = b ∧ Fr Nil wc wr) (fun _ i _ => M.length - (intOf i).toNat)
        case atStart => exact ⟨0, false, by omega, rfl, rfl, by simp, Fr.refl _ _⟩
        case round =>
          obtain ⟨k, b, hk, rfl, rfl, hb, hf⟩ := hrel
          have hsl := SM.out.fr hf
          have HFR := Lib.hid hf
          have HT := Lib.hid hb
          clear hb
          by_cases hlt : k < M.length
          · rcases hsl with ⟨_, e⟩ | ⟨g, o, cap, rfl, hc, ha, hr0⟩
            · rw [e] at hlt; simp at hlt
            obtain ⟨z, hz⟩ : ∃ z, M[k]? = some z := ⟨M[k], List.getElem?_eq_getElem hlt⟩
            obtain ⟨d0, d1, d2⟩ := pt_at hr0 hz
            obtain ⟨c0, c1, c2, f0, f1, f2⟩ := (HB.out.fr hf id).c3
            have e0 : (0 : Int) ≤ k := by omega
            have e1 : (k : Int) < M.length := by omega
            have HN := Lib.hid (take_mem (q := ((2147483647, x, y) : Pn)) hz)
            clear hf hr0 hz
            rcases b with _ | _
            · obtain ⟨z0, z1, z2⟩ := z
              dsimp only at d0 d1 d2
              by_cases k0 : z0 = 2147483647
              · subst z0
                by_cases k1 : z1 = x
                · subst z1
                  by_cases k2 : z2 = y
                  · subst z2
                    have HE := Lib.hid (show decide (((2147483647, x, y) : Pn) ∈ M.take (k + 1)) = true by rw [HN.out, HT.out]; simp)
                    clear HN
                    go_wp2_with fail
                    go_quiet (fail)
                    go_wp2_with fail
                    go_roundw
                    case rel => exact ⟨k + 1, true, by omega, by go_num, rfl, HE.out, HFR.out.drewN _⟩
                    case measure => simp [intOf]; omega
                  · skip
                    have HE := Lib.hid (show decide (((2147483647, x, y) : Pn) ∈ M.take (k + 1)) = false by rw [HN.out, HT.out]; simp [k2])
                    clear HN
                    go_wp2_with fail
                    go_quiet (fail)
                    go_wp2_with fail
                    go_roundw
                    case rel => exact ⟨k + 1, false, by omega, by go_num, rfl, HE.out, HFR.out.drewN _⟩
                    case measure => simp [intOf]; omega
                · skip
                  have HE := Lib.hid (show decide (((2147483647, x, y) : Pn) ∈ M.take (k + 1)) = false by rw [HN.out, HT.out]; simp [k1])
                  clear HN
                  go_wp2_with fail
                  go_quiet (fail)
                  go_wp2_with fail
                  go_roundw
                  case rel => exact ⟨k + 1, false, by omega, by go_num, rfl, HE.out, HFR.out.drewN _⟩
                  case measure => simp [intOf]; omega
              · skip
                have HE := Lib.hid (show decide (((2147483647, x, y) : Pn) ∈ M.take (k + 1)) = false by rw [HN.out, HT.out]; simp [k0])
                clear HN
                go_wp2_with fail
                go_quiet (fail)
                go_wp2_with fail
                go_roundw
                case rel => exact ⟨k + 1, false, by omega, by go_num, rfl, HE.out, HFR.out.drewN _⟩
                case measure => simp [intOf]; omega
            · skip
              have HE := Lib.hid (show decide (((2147483647, x, y) : Pn) ∈ M.take (k + 1)) = true by rw [HN.out, HT.out]; rfl)
              clear HN
              go_wp2_with fail
              go_quiet (fail)
              go_wp2_with fail
              go_roundw
              case rel => exact ⟨k + 1, true, by omega, by go_num, rfl, HE.out, HFR.out.drewN _⟩
              case measure => simp [intOf]; omega
          · obtain rfl : k = M.length := by omega
            have HD := Lib.hid (show decide (((2147483647, x, y) : Pn) ∈ M) = b by have h1 := HT.out; rw [List.take_length] at h1; exact h1)
            obtain ⟨A, c, rfl⟩ := hsl.shape
            replace SH := Lib.hid (SH.out.fr hf)
            replace HB := Lib.hid (HB.out.fr hf id)
            replace HF := Lib.hid (HF.out.trans hf)
            clear hsl hf HFR HT SM
            go_wp2_with fail
            go_loopw [10] (fun i wq => ∃ (k : Nat), k ≤ h.length ∧ i = .int .i64 k ∧ (∀ (j : Nat) (z : Pn), j < k → h[j]? = some z → z.1 ≠ 2147483647) ∧ Fr Nil wr wq) (fun i _ => h.length - (intOf i).toNat)
            case atStart => exact ⟨0, by omega, rfl, fun j z hj => absurd hj (by omega), Fr.refl _ _⟩
            case round =>
              obtain ⟨k, hk, rfl, hno, hf⟩ := hrel
              have hsl := SH.out.fr hf
              have HFR := Lib.hid hf
              have HNO := Lib.hid hno
              clear hno
              by_cases hlt : k < h.length
              · rcases hsl with ⟨_, e⟩ | ⟨g, o, cap, rfl, hc, ha, hr0⟩
                · rw [e] at hlt; simp at hlt
                obtain ⟨z, hz⟩ : ∃ z, h[k]? = some z := ⟨h[k], List.getElem?_eq_getElem hlt⟩
                obtain ⟨d0, d1, d2⟩ := pt_at hr0 hz
                obtain ⟨c0, c1, c2, f0, f1, f2⟩ := (HB.out.fr hf id).c3
                have e0 : (0 : Int) ≤ k := by omega
                have e1 : (k : Int) < h.length := by omega
                have HZ := Lib.hid hz
                clear hf hr0 hz
                by_cases kz : z.1 = 2147483647
                · go_wp2_with fail
                  go_quiet (fail)
                  go_wp2_with fail
                  refine (KLV.out _).mono ?_
                  rintro e w9 ⟨rfl, hf⟩
                  have HF9 := Lib.hid ((HF.out.trans (HFR.out.drewN _)).trans hf)
                  clear hf
                  go_wp2_with fail
                  go_ret
                  exact ⟨rfl, HF9.out⟩
                · go_wp2_with fail
                  go_quiet (fail)
                  go_wp2_with fail
                  go_roundw
                  case rel =>
                    refine ⟨k + 1, by omega, by go_num, fun j z' hj h1 => ?_, HFR.out.drewN _⟩
                    rcases Nat.lt_or_ge j k with h' | h'
                    · exact HNO.out j z' h' h1
                    · obtain rfl : j = k := by omega
                      rw [HZ.out] at h1
                      obtain rfl := Option.some.inj h1
                      exact kz
                  case measure => simp [intOf]; omega
              · obtain rfl : k = h.length := by omega
                have HID := Lib.hid (show ∀ z ∈ h, z.1 < ((2147483647, x, y) : Pn).1 from fun z hz => by
                  have h1 := gd_id (GL.out z (hull_sub HH.out z hz))
                  obtain ⟨j, hj⟩ := List.mem_iff_getElem?.1 hz
                  have h2 := HNO.out j z (List.getElem?_eq_some_iff.1 hj).1 hj
                  dsimp only
                  omega)
                have KH := fun W u (k : Sl EPt W u h) => Has_yes h ((2147483647, x, y) : Pn) u W (by omega) k GQ.out HCK.out
                have hin : inH h ((2147483647, x, y) : Pn) = !b := by
                  have h1 := has_out HH.out (lies GL.out) (gd_lie GQ.out) HID.out HM.out
                  rw [← HD.out, Bool.eq_iff_iff, h1]
                  simp
                rw [hin] at KH
                dsimp only at KH
                have KHH := Lib.hid KH
                replace SH := Lib.hid (SH.out.fr hf)
                replace HB := Lib.hid (HB.out.fr hf id)
                replace HF := Lib.hid (HF.out.trans hf)
                clear hf HFR KH hin hsl HNO
                obtain ⟨c0, c1, c2, f0, f1, f2⟩ := HB.out.c3
                obtain ⟨A2, c2', rfl⟩ := SH.out.shape
                rcases b with _ | _
                all_goals
                  have KX := KHH.out
                  simp only [Bool.not_false, Bool.not_true] at KX
                  replace KHH := Lib.hid KX
                  clear KX
                  go_wp2_with fail
                  go_region_held3 (fun w' => w'.cell? ⟨w.heap.size, 0, none⟩ = some (.int .i64 2147483647) ∧ w'.cell? ⟨w.heap.size, 1, none⟩ = some (.int .i64 x) ∧ w'.cell? ⟨w.heap.size, 2, none⟩ = some (.int .i64 y)) (first | (go_keep; done))
                    (first
                      | (go_at_call 8; (with_reducible refine (KF.out _ (SH.out.fr (by (repeat' (with_reducible first | refine Fr.setCell ?_ (fun hlt => absurd hlt (by dsimp only; omega)) _ | refine Fr.alloc ?_ _ | refine Fr.drewN ?_ _ | refine Fr.drew ?_ | exact Fr.refl _ _))))).mono ?_); rintro e wa ⟨ua, rfl, hfa, hoa⟩; have F1 : Fr Nil wr wa := Fr.trans (by (repeat' (with_reducible first | refine Fr.setCell ?_ (fun hlt => absurd hlt (by dsimp only; omega)) _ | refine Fr.alloc ?_ _ | refine Fr.drewN ?_ _ | refine Fr.drew ?_ | exact Fr.refl _ _))) hfa; obtain ⟨c0, c1, c2, f0, f1, f2⟩ := (HB.out.fr F1 id).c3)
                      | (go_at_call 16; (with_reducible refine (KHH.out _ _ (hoa.sl EPt_ok)).mono ?_); rintro e wb ⟨rfl, hfb⟩; have F2 := F1.trans hfb; obtain ⟨c0, c1, c2, f0, f1, f2⟩ := (HB.out.fr F2 id).c3)
                      | (go_at_call 11; (with_reducible refine (KLV.out _).mono ?_); rintro e wd ⟨rfl, hfd⟩; have F3 := F2.trans hfd; obtain ⟨c0, c1, c2, f0, f1, f2⟩ := (HB.out.fr F3 id).c3))
                  all_goals
                    go_wp2_with fail
                    go_ret
                    exact ⟨rfl, HF.out.trans F3⟩
end Go.Proofs.Ytalbaopfdejooaa.HullAb

