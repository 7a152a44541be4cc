import Derived.Test.YtalbaopfdejooaaQuiet
import Derived.StillTail
import Derived.Test.YtalbaopfdejooaaHullY
import Derived.Deep.RegionHeldLaw
import Derived.Test.YtalbaopfdejooaaHullU
import Derived.Deep.CutBlock
/- A region that draws its order, whose first operations are quiet in a class of worlds (callees included) and whose last ones have one order only: one walk in the order of the text. -/
namespace Go.Proofs.Ytalbaopfdejooaa.Tail
open Go.RowKit Base Quiet
set_option linter.unusedVariables false

section
variable {P : Program} {ops : Array Oper} {md : Region.Mode} {C : World → Prop}

/-- f more operations of the head come up, in whatever order; then L -/
def HeadQ (P : Program) (md : Region.Mode) (ops : Array Oper) (C : World → Prop) (n : Nat) (L : Array Bool → Act → Prop) : Nat → Array Bool → Act → Prop
  | 0, listed, a => L listed a
  | f + 1, listed, a => Region.ready md ops listed ≠ [] ∧ ∀ i ∈ Region.ready md ops listed, i < n ∧ qOp P ops C i (HeadQ P md ops C n L f (listed.setIfInBounds i true)) a

theorem HeadQ.any {n g : Nat} {L : Array Bool → Act → Prop} {Q' : Exit → Act → World → Prop} (hL : ∀ listed a w, C w → L listed a → wpAny P md ops Q' g listed a w) (f : Nat) :
    ∀ (listed : Array Bool) (a : Act) (w : World), C w → HeadQ P md ops C n L f listed a → wpAny P md ops Q' (f + g) listed a w := by
  induction f with
  | zero => intro listed a w hw h; rw [Nat.zero_add]; exact hL _ _ _ hw h
  | succ f ih =>
    intro listed a w hw h
    have e : f + 1 + g = (f + g) + 1 := by omega
    rw [e]
    refine ⟨fun h0 => absurd h0 h.1, fun i hi => ?_⟩
    exact wpOp_of_qOp hw (fun a' w' hw' => ih _ a' w' hw') (h.2 i hi).2

theorem HeadQ.take {n i : Nat} {oi : Oper} {v : Value} {L : Array Bool → Act → Prop} (hi : ops[i]? = some oi) (hsel : ∀ (j : Nat) (o : Oper) cs b, ops[j]? = some o → o.op ≠ .select cs b)
    (hs : Region.sinkB md ops n = true) (hc : Region.chainB md ops n = true) (hn : n < ops.size) (hin : i < n)
    (hdone : ∀ listed a, L listed a → ∀ j ∈ Region.ready md ops listed, n ≤ j) (f : Nat) :
    ∀ (listed : Array Bool) (a : Act), HeadInv md ops n listed →
      (∀ j oj, ops[j]? = some oj → j ≠ i → listed.getD j true = false → (∀ e ∈ oj.after, Region.binds md e = true → e.on ≠ i) → oi.apart ops oj = true) →
      i ∈ Region.ready md ops listed → YieldsIn P ops C oi v a →
      HeadQ P md ops C n L f (listed.setIfInBounds i true) (a.put oi.dst v) → HeadQ P md ops C n L (f + 1) listed a := by
  induction f with
  | zero =>
    intro listed a inv hfree hr hy H
    have hun := (mem_ready.1 hr).1
    have hlow : ∀ j ∈ Region.ready md ops listed, j < n := fun j hj =>
      Nat.lt_of_not_le fun hle => tail_waits hs hc hn inv _ i rfl hin hun j hle hj
    refine ⟨fun h => (by rw [h] at hr; cases hr), fun j hj => ⟨hlow j hj, ?_⟩⟩
    rcases Decidable.em (j = i) with rfl | hji
    · exact hy.qOp hi H
    · have h1 := hdone _ _ H j (ready_mono hj hji)
      have h2 := hlow j hj
      omega
  | succ f ih =>
    intro listed a inv hfree hr hy H
    have hun := (mem_ready.1 hr).1
    have hlow : ∀ j ∈ Region.ready md ops listed, j < n := fun j hj =>
      Nat.lt_of_not_le fun hle => tail_waits hs hc hn inv _ i rfl hin hun j hle hj
    refine ⟨fun h => (by rw [h] at hr; cases hr), fun j hj => ⟨hlow j hj, ?_⟩⟩
    rcases Decidable.em (j = i) with rfl | hji
    · exact hy.qOp hi H
    · obtain ⟨hjun, oj, hoj, hall⟩ := mem_ready.1 hj
      have hno : ∀ e ∈ oj.after, Region.binds md e = true → e.on ≠ i := fun e he hb heq => by
        have k := hall e he hb
        rw [heq, getD_both hun] at k
        cases k
      have h2 := qOp_put hoj (hfree j oj hoj hji hjun hno) (fun cs b => hsel i oi cs b hi) (fun cs b => hsel j oj cs b hoj) hy (H.2 j (ready_mono hj hji)).2
      refine qOp_mono (fun a' h3 => ih (listed.setIfInBounds j true) a' (inv.set hj (hlow j hj)) ?_ (ready_mono hr (Ne.symm hji)) h3.1 ?_) h2
      · intro k ok hk hki hku hkn
        refine hfree k ok hk hki ?_ hkn
        rcases Decidable.em (j = k) with rfl | hjk
        · exact hjun
        · rwa [getD_set_ne true hjk] at hku
      · rw [Array.setIfInBounds_comm _ _ hji]
        exact h3.2

theorem HeadQ.lex {n g : Nat} {Lq : Act → Prop} (hsel : Region.noSelect ops = true) (hs : Region.sinkB md ops n = true) (hc : Region.chainB md ops n = true) (hn : n < ops.size) :
    ∀ (l : List Oper) (k : Nat) (listed : Array Bool) (a : Act), (∀ j, j < l.length → l[j]? = ops[k + j]?) → k + l.length = n → HeadInv md ops n listed →
    Region.lexHead md ops g l.length k listed = true → wpQuiet P ops C Lq l a →
    HeadQ P md ops C n (fun listed' a' => Region.seqB md ops g n listed' = true ∧ Lq a') l.length listed a
  | [], k, listed, a, _, hk, _, hB, h => by
    obtain rfl : k = n := by simpa using hk
    exact ⟨by simpa [Region.lexHead] using hB, h⟩
  | o :: l, k, listed, a, hl, hk, inv, hB, h => by
    have h0 : ops[k]? = some o := by simpa using (hl 0 (by simp)).symm
    simp only [List.length_cons, Region.lexHead, Bool.and_eq_true] at hB hk
    have hr : k ∈ Region.ready md ops listed := by simpa using hB.1.1
    have hq : qOp P ops C k (wpQuiet P ops C Lq l) a := by unfold qOp; simp only [h0]; exact h
    obtain ⟨v, hy, hK⟩ := yieldsIn_of_qOp h0 hq
    refine HeadQ.take h0 (Region.noSelect_spec hsel) hs hc hn (by omega) (fun listed' a' hL => seqB_ready hL.1) l.length listed a inv (Region.free_spec h0 hB.1.2) hr hy ?_
    refine HeadQ.lex hsel hs hc hn l (k + 1) _ _ (fun j hj => ?_) (by omega) (inv.set hr (by omega)) hB.2 hK
    have := hl (j + 1) (by simp; omega)
    simpa [Nat.add_assoc, Nat.add_comm 1 j] using this

/-- the region: n quiet operations, then the others in their one order, in any world of the class -/
theorem wp_region_quiet_tail {id : Nat} {Q : Exit → Act → World → Prop} {a : Act} {w : World} {l : List Oper} (n : Nat) (hm : P.follows .mixedOrders = true) (hB : Region.lexTailB .any l.toArray n = true) (hC : C w.drew)
    (h : wpQuiet P l.toArray C (fun a' => ∀ w', C w' → wpList P l.toArray Q (l.drop n) a' w') (l.take n) a) : (Code.region id l.toArray true).wp P Q a w := by
  simp only [Region.lexTailB, Bool.and_eq_true, decide_eq_true_eq] at hB
  obtain ⟨⟨⟨⟨hsel, hn⟩, hs⟩, hc⟩, hlex⟩ := hB
  have hn' : n < l.length := by simpa using hn
  have htl : (l.take n).length = n := by simp; omega
  have hdl : (l.drop n).length = l.toArray.size - n := by simp
  have inv0 : HeadInv .any l.toArray n (Array.replicate l.toArray.size false) := by
    refine ⟨by simp, fun j oj _ hl => ?_, fun t _ ht => getD_in (by simpa using ht) (getD_replicate_false _ _)⟩
    rw [getD_replicate_false] at hl
    cases hl
  have H := HeadQ.lex (md := .any) (g := l.toArray.size - n) hsel hs hc hn (l.take n) 0 _ a (fun j hj => by
    rw [htl] at hj
    simp [hj]) (by simpa using htl) inv0 (by rw [htl]; exact hlex) h
  refine wp_region_any hm ?_
  have K := HeadQ.any (Q' := Q) (g := l.toArray.size - n) (fun listed a' w' hw' hL => by
    have k := wpAny_of_seq (md := .any) (Q' := Q) (l.drop n) n listed a' w' (fun j => by simp [List.getElem?_drop]) (by rw [hdl]; exact hL.1) (hL.2 w' hw')
    rwa [hdl] at k) _ _ _ _ hC H
  rw [htl, show n + (l.toArray.size - n) = l.toArray.size by omega] at K
  exact K
theorem wp_region_quiet_tail_fr (S : Nat → Prop) {id : Nat} {Q : Exit → Act → World → Prop} {a : Act} {w : World} {l : List Oper} (n : Nat) (hm : P.follows .mixedOrders = true) (hB : Region.lexTailB .any l.toArray n = true)
    (h : wpQuiet P l.toArray (fun w' => ∃ p : FrW S w, w' = p.val) (fun a' => ∀ w', (∃ p : FrW S w, w' = p.val) → wpList P l.toArray Q (l.drop n) a' w') (l.take n) a) : (Code.region id l.toArray true).wp P Q a w :=
  wp_region_quiet_tail n hm hB ⟨⟨w.drew, (Fr.refl _ _).drew⟩, rfl⟩ h
end
end Go.Proofs.Ytalbaopfdejooaa.Tail

/- Chapter 41, plain points: one turns left at each corner of a hull; twice its area. -/
namespace Go.Proofs.Ytalbaopfdejooaa.HullAc
open AreaA HullC HullD HullH HullN HullP HullQ HullV HullW HullX HullY
open AreaB (nxi nxi_lt tr term S term_yes)
open HullA (lt at_ D lt_irr lt_asym lt_or)
open HullB (Inner Bt)
set_option linter.unusedVariables false

/-- which stands ahead of place i of n -/
def pvi (n i : Nat) : Nat := if i = 0 then n - 1 else i - 1
theorem pvi_lt {n i : Nat} (h : i < n) : pvi n i < n := by unfold pvi; split <;> omega
theorem nxi_pvi {n i : Nat} (h : i < n) : nxi n (pvi n i) = i := by unfold nxi pvi; split <;> split <;> omega
theorem pvi_rem {n k : Nat} (h : k < n) : ((k : Int) + n - 1).tmod n = pvi n k := by
  unfold pvi
  split
  · subst_vars
    rw [show (((0 : Nat) : Int) + n - 1) = ((n - 1 : Nat) : Int) by omega, Int.tmod_eq_emod_of_nonneg (by omega), Int.emod_eq_of_lt (by omega) (by omega)]
  · rw [show ((k : Int) + n - 1) = ((k - 1 : Nat) : Int) + n by omega, Int.tmod_eq_emod_of_nonneg (by omega), Int.add_emod_right, Int.emod_eq_of_lt (by omega) (by omega)]

/-! ### a corner is no straight one -/
theorem flat3 {s : List Pn} {u v w : Pn} (hu : u ∈ s) (hv : v ∈ s) (hw : w ∈ s) (nu : ¬ Inner s u) (nv : ¬ Inner s v) (nw : ¬ Inner s w) (huv : ¬ at_ u v) (hvw : ¬ at_ v w) (hwu : ¬ at_ w u) : D u v w ≠ 0 := by
  intro h0
  have e1 : D u w v = 0 := by rw [HullA.D_neg, h0]; rfl
  have e2 : D v u w = 0 := by rw [HullA.D_swap, h0]; rfl
  have e3 : D v w u = 0 := by rw [HullA.D_rot, h0]
  have e4 : D w u v = 0 := by rw [HullA.D_rot, e3]
  have e5 : D w v u = 0 := by rw [HullA.D_neg, e4]; rfl
  rcases lt_or u v with k1 | k1 | k1
  · rcases lt_or v w with k2 | k2 | k2
    · exact nv (Or.inl ⟨u, hu, w, hw, k1, k2, h0⟩)
    · exact hvw k2
    · rcases lt_or w u with k3 | k3 | k3
      · exact nu (Or.inl ⟨w, hw, v, hv, k3, k1, e4⟩)
      · exact hwu k3
      · exact nw (Or.inl ⟨u, hu, v, hv, k3, k2, e1⟩)
  · exact huv k1
  · rcases lt_or v w with k2 | k2 | k2
    · rcases lt_or w u with k3 | k3 | k3
      · exact nw (Or.inl ⟨v, hv, u, hu, k2, k3, e3⟩)
      · exact hwu k3
      · exact nu (Or.inl ⟨v, hv, w, hw, k1, k3, e2⟩)
    · exact hvw k2
    · exact nv (Or.inl ⟨w, hw, u, hu, k2, k1, e5⟩)
theorem first_not {P : List Pn} (hs : HullA.Ord P) {t : Pn} (ht : P.head? = some t) : ¬ Inner P t := by
  intro hi
  have hl := (HullB.inner_iff P t).1 hi
  refine hl.1 fun a ha c hc k => ?_
  cases P with
  | nil => cases ht
  | cons x P =>
    simp only [List.head?_cons, Option.some.injEq] at ht
    subst ht
    rcases List.mem_cons.1 ha with rfl | h
    · exact (lt_irr k).elim
    · exact (lt_asym k ((List.pairwise_cons.1 hs).1 a h)).elim
theorem round_not {P h : List Pn} (hs : HullA.Ord P) (hr : Round P h) : ∀ x ∈ h, ¬ Inner P x := by
  obtain ⟨t, r, rfl, ht, _, hm⟩ := hr
  intro x hx
  rcases List.mem_cons.1 hx with rfl | hx
  · exact first_not hs ht
  · exact ((hm x).1 hx).2.2
theorem nodup_at {l : List Pn} (hn : l.Nodup) {i j : Nat} {a b : Pn} (ha : l[i]? = some a) (hb : l[j]? = some b) (hij : i ≠ j) : a ≠ b := by
  intro e
  subst e
  obtain ⟨h1, e1⟩ := List.getElem?_eq_some_iff.1 ha
  obtain ⟨h2, e2⟩ := List.getElem?_eq_some_iff.1 hb
  rcases Nat.lt_or_gt_of_ne hij with k | k
  · exact List.pairwise_iff_getElem.1 hn i j h1 h2 k (e1.trans e2.symm)
  · exact List.pairwise_iff_getElem.1 hn j i h2 h1 k (e2.trans e1.symm)
/-- one turns left at each corner -/
theorem corner_left {L h : List Pn} (hh : HullOf L h) (h3 : 3 ≤ h.length) {i : Nat} {u v w : Pn} (hu : h[pvi h.length i]? = some u) (hv : h[i]? = some v) (hw : h[nxi h.length i]? = some w) : 0 < D u v w := by
  have hi := (List.getElem?_eq_some_iff.1 hv).1
  have hnd := HullL.hull_nodup hh
  obtain ⟨P, hP, ⟨_, rfl⟩ | hr⟩ := hh
  · simp at h3
  have hsub := HullL.round_sub hr
  have h2 : 2 ≤ P.length := by
    have := HullL.nodup_len (a := h) hnd hsub
    omega
  have e : h = hullP P := Round.unique hr (hull_round2 hP.1 h2)
  have mu := List.mem_of_getElem? hu
  have mv := List.mem_of_getElem? hv
  have mw := List.mem_of_getElem? hw
  have hL : 0 ≤ D u v w := by
    have hv' : h[nxi h.length (pvi h.length i)]? = some v := by rw [nxi_pvi hi]; exact hv
    rw [e] at hu hv'
    exact hull_left hP.1 h2 hu hv' w (hsub w mw)
  have hno := round_not hP.1 hr
  have hat : ∀ {x y : Pn}, x ∈ h → y ∈ h → x ≠ y → ¬ at_ x y := fun hx hy hne k => hne (HullA.Ord.at hP.1 (hsub _ hx) (hsub _ hy) k)
  have n1 : pvi h.length i ≠ i := by unfold pvi; split <;> omega
  have n2 : i ≠ nxi h.length i := by unfold nxi; split <;> omega
  have n3 : nxi h.length i ≠ pvi h.length i := by unfold nxi pvi; split <;> split <;> omega
  have hne := flat3 (hsub u mu) (hsub v mv) (hsub w mw) (hno u mu) (hno v mv) (hno w mw) (hat mu mv (nodup_at hnd hu hv n1)) (hat mv mw (nodup_at hnd hv hw n2)) (hat mw mu (nodup_at hnd hw hu n3))
  omega

/-! ### twice the area -/
def ps : List Pn → Int
  | a :: b :: r => tr a b + ps (b :: r)
  | _ => 0
def fanS (t : Pn) : List Pn → Int
  | a :: b :: r => D t a b + fanS t (b :: r)
  | _ => 0
theorem tr_neg (a b : Pn) : tr b a = - tr a b := by unfold tr; grind
theorem tr_self (a : Pn) : tr a a = 0 := by unfold tr; grind
theorem D_tr (t a b : Pn) : D t a b = tr t a + tr a b + tr b t := by unfold D KernA.crz tr; grind
theorem ps_snoc (a b : Pn) : ∀ l : List Pn, ps (l ++ [a, b]) = ps (l ++ [a]) + tr a b
  | [] => by simp [ps]
  | [x] => by simp [ps]
  | x :: y :: l => by
    have := ps_snoc a b (y :: l)
    simp only [List.cons_append, ps] at this ⊢
    omega
theorem S_ps {l : List Pn} (hl : ∀ p ∈ l, lie p = true) : ∀ k, k < l.length → S l k = ps (l.take (k + 1))
  | 0, h => by
    cases l with
    | nil => simp at h
    | cons a l => simp [S, ps]
  | k + 1, h => by
    have ih := S_ps hl k (by omega)
    obtain ⟨a, ha⟩ : ∃ a, l[k]? = some a := ⟨l[k], List.getElem?_eq_getElem (by omega)⟩
    obtain ⟨b, hb⟩ : ∃ a, l[k + 1]? = some a := ⟨l[k + 1], List.getElem?_eq_getElem (by omega)⟩
    have hn : l[nxi l.length k]? = some b := by unfold nxi; rw [if_pos (by omega)]; exact hb
    have e1 : l.take (k + 1) = l.take k ++ [a] := by rw [List.take_add_one, ha]; rfl
    have e2 : l.take (k + 1 + 1) = l.take k ++ [a, b] := by rw [List.take_add_one, hb, e1]; simp
    simp only [S]
    rw [ih, term_yes ha hn (hl b (List.mem_of_getElem? hb)), e2, e1, ps_snoc]
theorem fan_ps (t : Pn) : ∀ (r : List Pn) (a z : Pn), r.head? = some a → r.getLast? = some z → fanS t r = ps r + tr t a - tr t z
  | [], _, _, h, _ => by cases h
  | [x], a, z, h, hz => by
    simp only [List.head?_cons, Option.some.injEq, List.getLast?_singleton] at h hz
    subst h
    subst hz
    simp only [fanS, ps]
    omega
  | x :: y :: r, a, z, h, hz => by
    simp only [List.head?_cons, Option.some.injEq] at h
    subst h
    rw [List.getLast?_cons_cons] at hz
    have := fan_ps t (y :: r) y z rfl hz
    have e := D_tr t x y
    have e2 := tr_neg t y
    simp only [fanS, ps]
    omega
theorem S_fan {t : Pn} {r : List Pn} (hl : ∀ p ∈ t :: r, lie p = true) : S (t :: r) (t :: r).length = fanS t r := by
  have h1 := S_ps hl r.length (by simp)
  rw [List.take_of_length_le (by simp)] at h1
  obtain ⟨z, hz⟩ : ∃ z, (t :: r)[r.length]? = some z := ⟨(t :: r)[r.length], List.getElem?_eq_getElem (by simp)⟩
  have hn : (t :: r)[nxi (t :: r).length r.length]? = some t := by unfold nxi; rw [if_neg (by simp)]; rfl
  show S (t :: r) (r.length + 1) = _
  simp only [S]
  rw [h1, term_yes hz hn (hl t (by simp))]
  cases r with
  | nil =>
    simp only [List.length_nil, List.getElem?_cons_zero, Option.some.injEq] at hz
    subst hz
    simp [ps, fanS, tr_self]
  | cons a r =>
    have hz' : (a :: r).getLast? = some z := by
      rw [List.getLast?_eq_getElem?]
      simpa using hz
    rw [fan_ps t (a :: r) a z rfl hz', tr_neg t z]
    simp only [ps]
    omega
theorem fan_pos {t : Pn} : ∀ {r : List Pn}, r.Pairwise (Lf t) → 0 ≤ fanS t r ∧ (2 ≤ r.length → 0 < fanS t r)
  | [], _ => by simp [fanS]
  | [x], _ => by simp [fanS]
  | x :: y :: r, h => by
    obtain ⟨h1, h2⟩ := List.pairwise_cons.1 h
    have k1 : 0 < D t x y := h1 y (by simp)
    have k2 := (fan_pos (r := y :: r) h2).1
    simp only [fanS]
    omega
theorem fan_small {t : Pn} {r : List Pn} (h : r.length < 2) : fanS t r = 0 := by
  match r, h with
  | [], _ => rfl
  | [x], _ => rfl
/-- the area of a hull is none just if it has less than three corners -/
theorem area_some {L h : List Pn} (hh : HullOf L h) (hl : ∀ p ∈ L, lie p = true) : S h h.length = 0 ↔ h.length < 3 := by
  have lh : ∀ x ∈ h, lie x = true := fun x hx => hl x (HullL.hull_sub hh x hx)
  obtain ⟨P, hP, ⟨_, rfl⟩ | ⟨t, r, rfl, ht, hpw, hm⟩⟩ := hh
  · simp [S]
  · rw [S_fan lh]
    simp only [List.length_cons]
    by_cases h2 : r.length < 2
    · rw [fan_small h2]; omega
    · have := (fan_pos hpw).2 (by omega)
      omega
end Go.Proofs.Ytalbaopfdejooaa.HullAc

/- Chapter 41: the walk of Turns. -/
namespace Go.Proofs.Ytalbaopfdejooaa.HullAd
open Go.RowKit Base Slices RowsA KernA KernE AreaA HullC HullD HullE HullF HullG HullH HullI HullJ HullO HullAc Quiet Tail
open AreaB (nxi nxi_lt nxi_rem)
set_option linter.unusedVariables false
set_option linter.unusedSimpArgs false

/-- a point and how one turns there -/
abbrev Sp := Pn × Int
def sc (s : Sp) : List Value := [.int .i64 s.1.1, .int .i64 s.1.2.1, .int .i64 s.1.2.2, .int .i64 s.2]
def ESt : El Sp := { ty := 50, sl := 47, size := 4, bytes := 32, cells := sc }
theorem info_st : (Try.prog.info? 50).map (fun i => (i.zero, i.size, i.bytes)) = some (some (.agg #[.int .i64 0, .int .i64 0, .int .i64 0, .int .i64 0]), 4, 32) := by kernel_rfl
theorem ESt_ok : ESt.Ok Try.prog := by
  obtain ⟨i0, hi, hz0, hz1, hz2⟩ := info_parts info_st
  exact ⟨Try.underlying47, ⟨i0, _, hi, hz0, hz1, hz2, rfl⟩, by decide, by decide, fun _ => rfl, fun a u hu => by simp [ESt, sc] at hu; rcases hu with rfl | rfl | rfl | rfl <;> rfl⟩
theorem st_at {w : World} {g o : Nat} {l : List Sp} (h : Row ESt w g o l) {i : Nat} {s : Sp} (hp : l[i]? = some s) :
    w.cell? ⟨g, o + i * 4, none⟩ = some (.int .i64 s.1.1) ∧ w.cell? ⟨g, o + i * 4 + 1, none⟩ = some (.int .i64 s.1.2.1) ∧ w.cell? ⟨g, o + i * 4 + 2, none⟩ = some (.int .i64 s.1.2.2) ∧ w.cell? ⟨g, o + i * 4 + 3, none⟩ = some (.int .i64 s.2) := by
  have h0 := Row.at ESt_ok h hp (j := 0) (u := .int .i64 s.1.1) rfl
  have h1 := Row.at ESt_ok h hp (j := 1) (u := .int .i64 s.1.2.1) rfl
  have h2 := Row.at ESt_ok h hp (j := 2) (u := .int .i64 s.1.2.2) rfl
  have h3 := Row.at ESt_ok h hp (j := 3) (u := .int .i64 s.2) rfl
  exact ⟨h0, h1, h2, h3⟩
theorem one_st {w : World} {g : Nat} (p : Pn) (z : Int) (hg : g = w.heap.size) : Sl ESt (w.alloc (.cells #[.int .i64 p.1, .int .i64 p.2.1, .int .i64 p.2.2, .int .i64 z] 50)) (.slice (some ⟨g, 0, none⟩) 1 1) [(p, z)] := lit_sl ESt_ok [(p, z)] rfl hg _
/-- how one turns at place i -/
def tAt (l : List Pn) (i : Nat) : Int := match l[pvi l.length i]?, l[i]?, l[nxi l.length i]? with
  | some a, some b, some c => tD a b c
  | _, _, _ => 0
theorem tAt_of {l : List Pn} {i : Nat} {a b c : Pn} (ha : l[pvi l.length i]? = some a) (hb : l[i]? = some b) (hc : l[nxi l.length i]? = some c) : tAt l i = tD a b c := by
  unfold tAt
  rw [ha, hb, hc]
def stops (l : List Pn) (k : Nat) : List Sp := (List.range k).map fun i => ((l[i]?).getD (0, 0, 0), tAt l i)
theorem stops_len (l : List Pn) (k : Nat) : (stops l k).length = k := by simp [stops]
theorem stops_succ {l : List Pn} {k : Nat} {p : Pn} (h : l[k]? = some p) : stops l (k + 1) = stops l k ++ [(p, tAt l k)] := by
  unfold stops
  rw [List.range_succ, List.map_append, List.map_cons, List.map_nil, h]
  rfl
theorem stops_at {l : List Pn} {k i : Nat} {p : Pn} (hi : i < k) (h : l[i]? = some p) : (stops l k)[i]? = some (p, tAt l i) := by
  unfold stops
  rw [List.getElem?_map, List.getElem?_range hi]
  simp [h]

set_option maxRecDepth 100000 in
set_option maxHeartbeats 8000000 in
theorem Turns_any (l : List Pn) (v : Value) (w : World) (hl : l.length ≤ 500) (hv : Sl EPt w v l) :
    Calls Try.prog 23 #[v] w fun e w' => ∃ u, e = .returned u ∧ Fr Nil w w' ∧ Own ESt w' w.heap.size u (stops l l.length) := by
  have HV := Lib.hid hv
  obtain ⟨A, c, rfl⟩ := hv.shape
  have hl' : (l.length : Int) ≤ 500 := by omega
  clear hv
  go_enter Try.func23, Try.ntmps23
  go_wp2_with fail
  go_loopw [3, 10] (fun x3 i wr => ∃ k : Nat, k ≤ l.length ∧ i = .int .i64 k ∧ Own ESt wr w.heap.size x3 (stops l k) ∧ Fr Nil w wr) (fun _ i _ => l.length - (intOf i).toNat)
  case atStart => exact ⟨0, by omega, rfl, Own.nil _ _, Fr.refl _ _⟩
  case round =>
    obtain ⟨k, hk, rfl, hso, hf⟩ := hrel
    have HS := Lib.hid hso
    have HFR := Lib.hid hf
    clear hso
    by_cases hlt : k < l.length
    · rcases HV.out with ⟨_, e⟩ | ⟨g, o, cap, e, hcap, ha, hr⟩
      · subst e
        simp at hlt
      simp only [Value.slice.injEq, true_and] at e
      obtain ⟨rfl, rfl⟩ := e
      obtain ⟨p, hp⟩ : ∃ p, l[k]? = some p := ⟨l[k], List.getElem?_eq_getElem hlt⟩
      obtain ⟨a, hA⟩ : ∃ p, l[pvi l.length k]? = some p := ⟨_, List.getElem?_eq_getElem (pvi_lt hlt)⟩
      obtain ⟨b, hB⟩ : ∃ p, l[nxi l.length k]? = some p := ⟨_, List.getElem?_eq_getElem (nxi_lt hlt)⟩
      have HTA := Lib.hid (tAt_of hA hp hB)
      have HSU := Lib.hid (stops_succ hp)
      have r1 := pvi_rem hlt
      have r2 := nxi_rem hlt
      have m1 := pvi_lt hlt
      have m2 := nxi_lt hlt
      generalize pvi l.length k = ka at *
      generalize nxi l.length k = kb at *
      have HW1 : Fr Nil w (wr.alloc (.cells #[.int .i64 p.1, .int .i64 p.2.1, .int .i64 p.2.2] 34)) := hf.alloc _
      obtain ⟨p0, p1, p2⟩ := pt_at (hr.fr hf ha id) hp
      obtain ⟨a0, a1, a2⟩ := pt_at (hr.fr HW1 ha id) hA
      obtain ⟨b0, b1, b2⟩ := pt_at (hr.fr HW1 ha id) hB
      have HF1 := Lib.hid HW1
      have HBP := Lib.hid (Bk.new wr 34 #[.int .i64 p.1, .int .i64 p.2.1, .int .i64 p.2.2])
      have hgl : g < wr.heap.size := Nat.lt_of_lt_of_le ha hf.size
      have e0 : (0 : Int) ≤ k := by omega
      have e1 : (k : Int) < l.length := by omega
      have e2 : (0 : Int) ≤ ka := by omega
      have e3 : (ka : Int) < l.length := by omega
      have e4 : (0 : Int) ≤ kb := by omega
      have e5 : (kb : Int) < l.length := by omega
      have e6 : ¬ (l.length : Int) = 0 := by omega
      have e7 : ¬ l = [] := by intro e; rw [e] at hlt; simp at hlt
      have e8 : ((l.length : Int) == 0) = false := by rw [beq_eq_false_iff_ne]; omega
      have e9 : ¬ l.length = 0 := by omega
      have w1 : IntKind.i64.wrap ((k : Int) + l.length) = k + l.length := by rw [IntKind.wrap_i64]; omega
      have w2 : IntKind.i64.wrap ((k : Int) + l.length - 1) = k + l.length - 1 := by rw [IntKind.wrap_i64]; omega
      have w3 : IntKind.i64.wrap ((k : Int) + 1) = k + 1 := by rw [IntKind.wrap_i64]; omega
      have w4 : IntKind.i64.wrap (ka : Int) = ka := by rw [IntKind.wrap_i64]; omega
      have w5 : IntKind.i64.wrap (kb : Int) = kb := by rw [IntKind.wrap_i64]; omega
      have t4 : (ka : Int).toNat = ka := rfl
      have t5 : (kb : Int).toNat = kb := rfl
      have KT := fun W => turn_any a p b W
      rw [← HTA.out] at KT
      generalize tAt l k = z at *
      have KTT := Lib.hid KT
      have HLN := Lib.hid (stops_len l k)
      clear hA hB hp HW1 hf KT hr HTA
      go_upto_region 5 with fail
      obtain ⟨W1, hW1⟩ : ∃ W1, wr.alloc (.cells #[.int .i64 p.1, .int .i64 p.2.1, .int .i64 p.2.2] 34) = W1 := ⟨_, rfl⟩
      rw [hW1] at HF1 HBP a0 a1 a2 b0 b1 b2 ⊢
      have hg1 : g < W1.heap.size := by rw [← hW1]; simp; omega
      have HWR := Lib.hid (show Fr Nil wr W1 by rw [← hW1]; exact (Fr.refl Nil wr).alloc _)
      clear hW1 p0 p1 p2
      go_cut [6, 7] (fun x6 x7 wx => ∃ ga gb, x6 = .pointer (some ⟨ga, 0, none⟩) ∧ x7 = .pointer (some ⟨gb, 0, none⟩) ∧ Bk wx ga 34 #[.int .i64 a.1, .int .i64 a.2.1, .int .i64 a.2.2] ∧ Bk wx gb 34 #[.int .i64 b.1, .int .i64 b.2.1, .int .i64 b.2.2] ∧ Fr Nil W1 wx ∧ W1.heap.size ≤ ga ∧ W1.heap.size ≤ gb)
      case first =>
        go_region_held_law (fun w' => w'.cell? ⟨g, o + ka * 3, none⟩ = some (.int .i64 a.1) ∧ w'.cell? ⟨g, o + ka * 3 + 1, none⟩ = some (.int .i64 a.2.1) ∧ w'.cell? ⟨g, o + ka * 3 + 2, none⟩ = some (.int .i64 a.2.2) ∧ w'.cell? ⟨g, o + kb * 3, none⟩ = some (.int .i64 b.1) ∧ w'.cell? ⟨g, o + kb * 3 + 1, none⟩ = some (.int .i64 b.2.1) ∧ w'.cell? ⟨g, o + kb * 3 + 2, none⟩ = some (.int .i64 b.2.2)) (first | (go_keep; done)) (fail)
        all_goals
          go_wp2_with fail
          go_meet
          exact ⟨_, _, rfl, rfl, by repeat first | exact new' (by simp) | apply Bk.alloc | apply Bk.drew, by repeat first | exact new' (by simp) | apply Bk.alloc | apply Bk.drew, by repeat first | exact Fr.refl _ _ | apply Fr.alloc | apply Fr.drew, by first | exact Nat.le_refl _ | (simp; done) | (simp; omega), by first | exact Nat.le_refl _ | (simp; done) | (simp; omega)⟩
      case rest =>
        obtain ⟨ga, gb, rfl, rfl, hba, hbb, hfx, hga, hgb⟩ := hcut
        have HFX := Lib.hid (HF1.out.trans hfx)
        have HP2 := Lib.hid (HBP.out.fr hfx id)
        have HA2 := Lib.hid hba
        have HB2 := Lib.hid hbb
        have HS2 := Lib.hid (HS.out.fr (HWR.out.trans hfx) (fun _ _ h => h))
        have hpl : wr.heap.size < W1.heap.size := HBP.out.lt
        have NO := Lib.hid (show ∀ i, u3.ownBlock = some i → i ≠ wr.heap.size ∧ i ≠ ga ∧ i ≠ gb from fun i hi => by
          have := (HS.out.lt i hi).2
          omega)
        clear hba hbb hfx hga hgb a0 a1 a2 b0 b1 b2 r1 r2 m1 m2 e2 e3 e4 e5 e6 e7 e8 e9 w1 w2 w3 w4 w5 t4 t5 hg1 hgl
        obtain ⟨p0, p1, p2, _, _, _⟩ := HP2.out.c3
        obtain ⟨a0, a1, a2, _, _, _⟩ := HA2.out.c3
        obtain ⟨b0, b1, b2, _, _, _⟩ := HB2.out.c3
        go_wp2_with fail
        go_region_held3 (fun w' => w'.cell? ⟨wr.heap.size, 0, none⟩ = some (.int .i64 p.1) ∧ w'.cell? ⟨wr.heap.size, 1, none⟩ = some (.int .i64 p.2.1) ∧ w'.cell? ⟨wr.heap.size, 2, none⟩ = some (.int .i64 p.2.2) ∧ w'.cell? ⟨ga, 0, none⟩ = some (.int .i64 a.1) ∧ w'.cell? ⟨ga, 1, none⟩ = some (.int .i64 a.2.1) ∧ w'.cell? ⟨ga, 2, none⟩ = some (.int .i64 a.2.2) ∧ w'.cell? ⟨gb, 0, none⟩ = some (.int .i64 b.1) ∧ w'.cell? ⟨gb, 1, none⟩ = some (.int .i64 b.2.1) ∧ w'.cell? ⟨gb, 2, none⟩ = some (.int .i64 b.2.2)) (first | (go_keep; done))
          (first
            | (go_at_call 45; (with_reducible refine (KTT.out _).mono ?_); rintro e wa ⟨rfl, hfa⟩; have F1 : Fr Nil wc wa := Fr.trans (by (repeat' (with_reducible first | refine Fr.setCell ?_ (fun hlt => absurd hlt (by dsimp only; omega)) _ | refine Fr.alloc ?_ _ | refine Fr.drewN ?_ _ | refine Fr.drew ?_ | exact Fr.refl _ _))) hfa; obtain ⟨p0, p1, p2, _, _, _⟩ := (HP2.out.fr F1 id).c3; obtain ⟨a0, a1, a2, _, _, _⟩ := (HA2.out.fr F1 id).c3; obtain ⟨b0, b1, b2, _, _, _⟩ := (HB2.out.fr F1 id).c3)
            | (rw [if_pos (by rfl)]; refine Slices.wp_app ESt_ok (.tmp 34) (.tmp 41) 47 rfl rfl w.heap.size _ _ (stops l k) [(p, z)] rfl ((HS2.out.fr F1 (fun _ _ h => h)).alloc _) rfl (one_st p z rfl).come (by rw [HLN.out]; simp; omega) ((HFX.out.trans (F1.alloc _)).size) ?_; intro v3 w3 h3 f3 b3 m3; have F3 : Fr Nil w w3 := Fr.then (HFX.out.trans (F1.alloc _)) f3 (fun i hi hlt => by have := (HS2.out.lt i hi).1; omega); obtain ⟨p0, p1, p2, _, _, _⟩ := (((HP2.out.fr F1 id).alloc _).fr f3 (fun hg => (NO.out _ hg).1 rfl)).c3; obtain ⟨a0, a1, a2, _, _, _⟩ := (((HA2.out.fr F1 id).alloc _).fr f3 (fun hg => (NO.out _ hg).2.1 rfl)).c3; obtain ⟨b0, b1, b2, _, _, _⟩ := (((HB2.out.fr F1 id).alloc _).fr f3 (fun hg => (NO.out _ hg).2.2 rfl)).c3))
        all_goals
          go_wp2_with fail
          go_roundw
          case rel => exact ⟨k + 1, by omega, by go_num, by rw [HSU.out]; exact h3, F3⟩
          case measure => simp [intOf]; omega
    · obtain rfl : k = l.length := by omega
      go_wp2_with fail
      go_ret
      exact ⟨_, rfl, HFR.out, HS.out⟩
end Go.Proofs.Ytalbaopfdejooaa.HullAd

/- Chapter 41: the law HullTurns. -/
namespace Go.Proofs.Ytalbaopfdejooaa.HullAe
open Go.RowKit Base Slices RowsA WideB KernA KernE AreaA HullC HullD HullE HullF HullG HullH HullI HullJ HullK HullL HullO HullR HullS HullT HullU HullAc HullAd Quiet Tail
open AreaB (nxi nxi_lt nxi_rem S wcs tr S_in all_at tr_bd term_yes digits_row)
open AreaC (rcross_pq)
open AreaE (wpQuiet_loadD dcells_one)
open HullA (D)
set_option linter.unusedVariables false
set_option linter.unusedSimpArgs false

set_option maxRecDepth 100000 in
set_option maxHeartbeats 4000000 in
theorem Area_any (l : List Pn) (v : Value) (w : World) (hl : l.length ≤ 20) (hv : Sl EPt w v l) (hlie : ∀ p ∈ l, lie p = true) :
    Calls Try.prog 29 #[v] w fun e w' => e = .returned (.tuple #[.agg #[.int .i64 (S l l.length / 18446744073709551616), .int .u64 (S l l.length % 18446744073709551616)], .bool true]) ∧ Fr Nil w w' := by
  have K := Lib.hid (fun W (h : Sl EPt W v l) => AreaD.area_any l v W hl h)
  have HV := Lib.hid hv
  have HR := Lib.hid (Bk.new w 56 #[.int .i64 0, .int .u64 0])
  have HF := Lib.hid ((Fr.refl Nil w).alloc (.cells #[.int .i64 0, .int .u64 0] 56))
  have HLI := Lib.hid hlie
  obtain ⟨nh, hnh⟩ : ∃ x, S l l.length / 18446744073709551616 = x := ⟨_, rfl⟩
  obtain ⟨nl, hnl⟩ : ∃ x, S l l.length % 18446744073709551616 = x := ⟨_, rfl⟩
  rw [hnh, hnl]
  have HNH := Lib.hid hnh
  have HNL := Lib.hid hnl
  clear hv hlie hnh hnl
  go_enter Try.func29, Try.ntmps29
  go_wp2_with fail
  refine (K.out _ (HV.out.fr HF.out)).mono ?_
  rintro e w2 ⟨n, b, rfl, hf, h⟩
  have hn : b = true ∧ n = S l l.length := by
    rcases h with ⟨h1, h2, _⟩ | ⟨_, _, p, hp, h3⟩
    · exact ⟨h1, h2⟩
    · rw [HLI.out p hp] at h3; cases h3
  obtain ⟨rfl, rfl⟩ := hn
  have hl2 : w.heap.size < w2.heap.size := (HR.out.fr hf id).lt
  obtain ⟨k4, k5, f4, f5⟩ := (HR.out.fr hf id).c2
  replace HF := Lib.hid (HF.out.trans hf)
  clear hf h K
  unfold wcs
  rw [HNH.out, HNL.out]
  go_wp2_with fail
  refine bodyPost_ret (v := .tuple #[.agg #[.int .i64 nh, .int .u64 nl], .bool true]) (by simp [results, Try.results29, go_sem, k4, k5, hl2, Nat.ne_of_lt hl2]) rfl ⟨rfl, ?_⟩
  have hh := HF.out
  (repeat' (with_reducible first | exact hh | refine Fr.setCell ?_ (fun hlt => absurd hlt (by dsimp only; omega)) _ | refine Fr.alloc ?_ _ | refine Fr.drewN ?_ _ | refine Fr.drew ?_))

theorem corner_one {L h : List Pn} (hh : HullOf L h) (hl : ∀ p ∈ L, lie p = true) (h3 : 2 < h.length) {i : Nat} {p : Pn} (hi : h[i]? = some p) : tAt h i = 1 := by
  have hlt := (List.getElem?_eq_some_iff.1 hi).1
  obtain ⟨a, hA⟩ : ∃ p, h[pvi h.length i]? = some p := ⟨_, List.getElem?_eq_getElem (pvi_lt hlt)⟩
  obtain ⟨b, hB⟩ : ∃ p, h[nxi h.length i]? = some p := ⟨_, List.getElem?_eq_getElem (nxi_lt hlt)⟩
  have lh : ∀ x ∈ h, lie x = true := fun x hx => hl x (hull_sub hh x hx)
  have k := corner_left hh h3 hA hi hB
  rw [tAt_of hA hi hB, tD_eq (lh a (List.mem_of_getElem? hA)) (lh p (List.mem_of_getElem? hi)) (lh b (List.mem_of_getElem? hB))]
  unfold WideF.cmpI
  rw [if_neg (by omega), if_pos k]

set_option maxRecDepth 100000 in
set_option maxHeartbeats 16000000 in
theorem turns_any (l0 : List Pn) (va : Value) (w : World) (hva : Come EPt w va l0) :
    Calls Try.prog 7 #[va] w fun e w' => e = .returned (.bool true) ∧ Fr Nil w w' := by
  have VA := Lib.hid hva
  have HF := Lib.hid (Fr.refl Nil w)
  have KLV := Lib.hid (fun W => lives41 W)
  clear hva
  go_enter Try.func7, Try.ntmps7
  go_wp2_with fail
  refine (few12c VA.out).mono ?_
  rintro e w1 ⟨u1, rfl, hf, ho⟩
  have SL := Lib.hid (ho.sl EPt_ok)
  replace HF := Lib.hid (HF.out.trans hf)
  clear hf ho VA
  have hll : (l0.take 12).length ≤ 12 := by rw [List.length_take]; omega
  generalize l0.take 12 = l at *
  go_wp2_with fail
  refine (few12 hll SL.out).mono ?_
  rintro e w2 ⟨u2, rfl, hf, ho⟩
  have S2 := Lib.hid (ho.sl EPt_ok)
  replace SL := Lib.hid (SL.out.fr hf)
  replace HF := Lib.hid (HF.out.trans hf)
  clear hf ho
  go_wp2_with fail
  refine (Turns_any l u2 _ (by omega) S2.out).mono ?_
  rintro e w3 ⟨ut, rfl, hf, ho⟩
  have ST := Lib.hid (ho.sl ESt_ok)
  replace SL := Lib.hid (SL.out.fr hf)
  replace HF := Lib.hid (HF.out.trans hf)
  clear hf ho S2
  obtain ⟨A1, c1, rfl⟩ := SL.out.shape
  obtain ⟨A2, c2, rfl⟩ : ∃ A c, ut = .slice A l.length c := by
    obtain ⟨A, c, h⟩ := ST.out.shape
    rw [stops_len] at h
    exact ⟨A, c, h⟩
  have hll' : (l.length : Int) ≤ 12 := by omega
  go_wp2_with fail
  go_loopw [4] (fun i wr => ∃ k : Nat, k ≤ l.length ∧ i = .int .i64 k ∧ Fr Nil w3 wr) (fun i _ => l.length - (intOf i).toNat)
  case atStart => exact ⟨0, by omega, rfl, Fr.refl _ _⟩
  case round =>
    obtain ⟨k, hk, rfl, hf⟩ := hrel
    have HFR := Lib.hid hf
    by_cases hlt : k < l.length
    · rcases SL.out with ⟨_, e⟩ | ⟨g, o, cap, e, hcap, ha, hr⟩
      · subst e; simp at hlt
      rcases ST.out with ⟨_, e'⟩ | ⟨gt, ot, capt, e', hcapt, hat, hrt⟩
      · have h0 := congrArg List.length e'; rw [stops_len, List.length_nil] at h0; omega
      rw [stops_len] at e'
      simp only [Value.slice.injEq, true_and] at e e'
      obtain ⟨rfl, rfl⟩ := e
      obtain ⟨rfl, rfl⟩ := e'
      obtain ⟨p, hp⟩ : ∃ p, l[k]? = some p := ⟨l[k], List.getElem?_eq_getElem hlt⟩
      obtain ⟨a, hA⟩ : ∃ p, l[pvi l.length k]? = some p := ⟨_, List.getElem?_eq_getElem (pvi_lt hlt)⟩
      obtain ⟨b, hB⟩ : ∃ p, l[nxi l.length k]? = some p := ⟨_, List.getElem?_eq_getElem (nxi_lt hlt)⟩
      have HTA := Lib.hid (tAt_of hA hp hB)
      have r1 := pvi_rem hlt
      have r2 := nxi_rem hlt
      have m1 := pvi_lt hlt
      have m2 := nxi_lt hlt
      generalize pvi l.length k = ka at *
      generalize nxi l.length k = kb at *
      obtain ⟨p0, p1, p2⟩ := pt_at (hr.fr hf ha id) hp
      obtain ⟨a0, a1, a2⟩ := pt_at (hr.fr hf ha id) hA
      obtain ⟨b0, b1, b2⟩ := pt_at (hr.fr hf ha id) hB
      obtain ⟨s0, s1, s2, s3⟩ := st_at (hrt.fr hf hat id) (stops_at hlt hp)
      dsimp only at s0 s1 s2 s3
      have KT := fun W => rturn_any a p b W
      rw [← HTA.out] at KT
      generalize tAt l k = z at *
      have KTT := Lib.hid KT
      have e0 : (0 : Int) ≤ k := by omega
      have e1 : (k : Int) < l.length := by omega
      have e2 : (0 : Int) ≤ ka := by omega
      have e3 : (ka : Int) < l.length := by omega
      have e4 : (0 : Int) ≤ kb := by omega
      have e5 : (kb : Int) < l.length := by omega
      have e6 : ¬ (l.length : Int) = 0 := by omega
      have e7 : ¬ l = [] := by intro e; rw [e] at hlt; simp at hlt
      have e9 : ¬ l.length = 0 := by omega
      have qp0 := fun (y : FrW Nil wr) => cell_q p0 y
      have qp1 := fun (y : FrW Nil wr) => cell_q p1 y
      have qp2 := fun (y : FrW Nil wr) => cell_q p2 y
      have qa0 := fun (y : FrW Nil wr) => cell_q a0 y
      have qa1 := fun (y : FrW Nil wr) => cell_q a1 y
      have qa2 := fun (y : FrW Nil wr) => cell_q a2 y
      have qb0 := fun (y : FrW Nil wr) => cell_q b0 y
      have qb1 := fun (y : FrW Nil wr) => cell_q b1 y
      have qb2 := fun (y : FrW Nil wr) => cell_q b2 y
      have qs0 := fun (y : FrW Nil wr) => cell_q s0 y
      have qs1 := fun (y : FrW Nil wr) => cell_q s1 y
      have qs2 := fun (y : FrW Nil wr) => cell_q s2 y
      have qs3 := fun (y : FrW Nil wr) => cell_q s3 y
      clear hA hB hp hf KT hr hrt HTA p0 p1 p2 a0 a1 a2 b0 b1 b2 s0 s1 s2 s3
      go_wp2_with fail
      refine wp_region_quiet_fr Nil (by kernel_rfl) (by kernel_rfl) ?_
      repeat (go_big_quiet_step (first
        | (go_at_call 24; with_reducible exact quiet_call (KTT.out _))))
      refine wpQuiet_nil ?_
      intro w4 hw'
      obtain ⟨⟨wq, hfq⟩, hw''⟩ := hw'
      subst hw''
      have HF4 := Lib.hid (HFR.out.trans hfq)
      clear hfq qp0 qp1 qp2 qa0 qa1 qa2 qb0 qb1 qb2 qs0 qs1 qs2 qs3
      go_wp2_with fail
      go_roundw
      case rel => exact ⟨k + 1, by omega, by go_num, HF4.out⟩
      case measure => simp [intOf]; omega
    · obtain rfl : k = l.length := by omega
      replace SL := Lib.hid (SL.out.fr hf)
      replace HF := Lib.hid (HF.out.trans hf)
      clear hf HFR ST
      go_wp2_with fail
      refine (allgood_any l _ _ (by omega) SL.out).mono ?_
      obtain ⟨za, hza⟩ : ∃ z, l.all gd = z := ⟨_, rfl⟩
      rw [hza]
      have ZA := Lib.hid hza
      clear hza
      rintro e w4 ⟨rfl, hf⟩
      replace SL := Lib.hid (SL.out.fr hf)
      replace HF := Lib.hid (HF.out.trans hf)
      clear hf
      rcases za with _ | _
      · go_wp2_with fail
        refine (KLV.out _).mono ?_
        rintro e w9 ⟨rfl, hf⟩
        replace HF := Lib.hid (HF.out.trans hf)
        go_wp2_with fail
        go_ret
        exact ⟨rfl, HF.out⟩
      have GL := Lib.hid (all_good ZA.out)
      have LL := Lib.hid (lies GL.out)
      clear ZA
      go_wp2_with fail
      refine (rof_any l _ _ (by omega) LL.out SL.out).mono ?_
      rintro e w5 ⟨uh, h, rfl, hf, ho, hh⟩
      have SH := Lib.hid (ho.sl EPt_ok)
      have HH := Lib.hid hh
      have hhl : h.length ≤ 12 := Nat.le_trans (hull_len hh) hll
      replace HF := Lib.hid (HF.out.trans hf)
      have LH := Lib.hid (show ∀ p ∈ h, lie p = true from fun p hp => LL.out p (hull_sub HH.out p hp))
      clear hf ho hh SL
      go_wp2_with fail
      refine (few20 (by omega) SH.out).mono ?_
      rintro e w6 ⟨u6, rfl, hf, ho⟩
      have S6 := Lib.hid (ho.sl EPt_ok)
      replace SH := Lib.hid (SH.out.fr hf)
      replace HF := Lib.hid (HF.out.trans hf)
      clear hf ho
      go_wp2_with fail
      refine (Turns_any h u6 _ (by omega) S6.out).mono ?_
      rintro e w7 ⟨uu, rfl, hf, ho⟩
      have SU := Lib.hid (ho.sl ESt_ok)
      replace SH := Lib.hid (SH.out.fr hf)
      replace HF := Lib.hid (HF.out.trans hf)
      clear hf ho S6
      obtain ⟨A3, c3, rfl⟩ := SH.out.shape
      obtain ⟨A4, c4, rfl⟩ : ∃ A c, uu = .slice A h.length c := by
        obtain ⟨A, c, h⟩ := SU.out.shape
        rw [stops_len] at h
        exact ⟨A, c, h⟩
      have hhl' : (h.length : Int) ≤ 12 := by omega
      go_upto_block 2 with fail
      go_cut [7] (fun x7 wx => Fr Nil w7 wx)
      case first =>
        go_wp2_with fail
        go_loopw [7] (fun i wr => ∃ k : Nat, k ≤ h.length ∧ i = .int .i64 k ∧ Fr Nil w7 wr) (fun i _ => h.length - (intOf i).toNat)
        case atStart => exact ⟨0, by omega, rfl, Fr.refl _ _⟩
        case round =>
          obtain ⟨k, hk, rfl, hf⟩ := hrel
          have HFR := Lib.hid hf
          by_cases hlt : k < h.length
          · have e1 : (k : Int) < h.length := by omega
            by_cases h2 : 2 < h.length
            · have e2 : (2 : Int) < h.length := by omega
              rcases SU.out with ⟨_, e'⟩ | ⟨gt, ot, capt, e', hcapt, hat, hrt⟩
              · have h0 := congrArg List.length e'; rw [stops_len, List.length_nil] at h0; omega
              rw [stops_len] at e'
              simp only [Value.slice.injEq, true_and] at e'
              obtain ⟨rfl, rfl⟩ := e'
              obtain ⟨p, hp⟩ : ∃ p, h[k]? = some p := ⟨h[k], List.getElem?_eq_getElem hlt⟩
              obtain ⟨_, _, _, s3⟩ := st_at (hrt.fr hf hat id) (stops_at hlt hp)
              dsimp only at s3
              rw [corner_one HH.out LL.out h2 hp] at s3
              have e0 : (0 : Int) ≤ k := by omega
              clear hf hp hrt
              go_wp2_with fail
              go_roundw
              case rel => exact ⟨k + 1, by omega, by go_num, HFR.out⟩
              case measure => simp [intOf]; omega
            · have e2 : ¬ (2 : Int) < h.length := by omega
              clear hf
              go_wp2_with fail
              go_meet
              exact HFR.out
          · have e1 : ¬ (k : Int) < h.length := by omega
            clear hf
            go_wp2_with fail
            go_meet
            exact HFR.out
      case rest =>
        replace SH := Lib.hid (SH.out.fr hcut)
        replace HF := Lib.hid (HF.out.trans hcut)
        clear hcut SU
        have KL := fun W => WideC.long_any 0 W (by omega) (by omega)
        rw [WideR.dcells_zero] at KL
        have KLL := Lib.hid KL
        clear KL
        go_wp2_with fail
        refine (KLL.out _).mono ?_
        rintro e w8 ⟨rfl, hf⟩
        replace SH := Lib.hid (SH.out.fr hf)
        replace HF := Lib.hid (HF.out.trans hf)
        have HS8 := Lib.hid (show Bk (w8.alloc (.cells #[.int .u64 0, .int .u64 0, .int .u64 0, .int .u64 0, .int .u64 0, .int .u64 0, .int .u64 0, .int .u64 0, .int .u64 0] 41)) w8.heap.size 41 (dcells 0) by rw [WideR.dcells_zero]; exact Bk.new _ _ _)
        clear hf KLL
        go_wp2_with fail
        go_loopw [9] (fun i wr => ∃ k : Nat, k ≤ h.length ∧ i = .int .i64 k ∧ Bk wr w8.heap.size 41 (dcells (S h k)) ∧ Fr Nil w8 wr) (fun i _ => h.length - (intOf i).toNat)
        case atStart => exact ⟨0, by omega, rfl, HS8.out, (Fr.refl _ _).alloc _⟩
        case round =>
          obtain ⟨k, hk, rfl, hbs, hf⟩ := hrel
          have HFR := Lib.hid hf
          have HBS := Lib.hid hbs
          clear hbs
          by_cases hlt : k < h.length
          · rcases SH.out with ⟨_, e⟩ | ⟨g, o, cap, e, hcap, ha, hr⟩
            · subst e; simp at hlt
            simp only [Value.slice.injEq, true_and] at e
            obtain ⟨rfl, rfl⟩ := e
            obtain ⟨p, hp⟩ : ∃ p, h[k]? = some p := ⟨h[k], List.getElem?_eq_getElem hlt⟩
            obtain ⟨q, hq⟩ : ∃ p, h[nxi h.length k]? = some p := ⟨_, List.getElem?_eq_getElem (nxi_lt hlt)⟩
            have lp := LH.out p (List.mem_of_getElem? hp)
            have lq := LH.out q (List.mem_of_getElem? hq)
            have HT := Lib.hid (show S h (k + 1) = S h k + tr p q from by simp only [S]; rw [term_yes hp hq lq])
            have KX := Lib.hid (fun W => rcross_pq lp lq W)
            have KA := Lib.hid (fun W => WideD.add_any (S h k) (tr p q) W)
            have r2 := nxi_rem hlt
            have m2 := nxi_lt hlt
            generalize nxi h.length k = kb at *
            obtain ⟨b0, b1, b2⟩ := pt_at (hr.fr hf ha id) hq
            have HFQ : Fr Nil wr (wr.alloc (.cells #[.int .i64 q.1, .int .i64 q.2.1, .int .i64 q.2.2] 34)) := (Fr.refl Nil wr).alloc _
            obtain ⟨p0, p1, p2⟩ := pt_at (hr.fr (hf.trans HFQ) ha id) hp
            have HQ := Lib.hid (Bk.new wr 34 #[.int .i64 q.1, .int .i64 q.2.1, .int .i64 q.2.2])
            have HBS1 := Lib.hid (HBS.out.fr HFQ id)
            have HF1 := Lib.hid (hf.trans HFQ)
            have e0 : (0 : Int) ≤ k := by omega
            have e1 : (k : Int) < h.length := by omega
            have e4 : (0 : Int) ≤ kb := by omega
            have e5 : (kb : Int) < h.length := by omega
            have e6 : ¬ (h.length : Int) = 0 := by omega
            have e7 : ¬ h = [] := by intro e; rw [e] at hlt; simp at hlt
            obtain ⟨W1, hW1⟩ : ∃ W1, wr.alloc (.cells #[.int .i64 q.1, .int .i64 q.2.1, .int .i64 q.2.2] 34) = W1 := ⟨_, rfl⟩
            rw [hW1] at HQ HBS1 HF1 p0 p1 p2
            have HW1 := Lib.hid hW1
            have q0 := fun (y : FrW Nil W1) => cell_q p0 y
            have q1 := fun (y : FrW Nil W1) => cell_q p1 y
            have q2 := fun (y : FrW Nil W1) => cell_q p2 y
            obtain ⟨x0, x1, x2⟩ := KernE.quiet_c3 (S := Nil) HQ.out id
            have HDQ := Lib.hid (show ∀ W, (∃ y : FrW Nil W1, W = y.val) → Bk W w8.heap.size 41 (dcells (S h k)) from fun W hW => by
              obtain ⟨y, rfl⟩ := hW
              exact HBS1.out.fr y.fr id)
            generalize S h k = sn at *
            generalize tr p q = tn at *
            clear hp hq lp lq hr hf HFQ hW1 p0 p1 p2
            go_upto_region 24 with fail
            rw [HW1.out]
            clear b0 b1 b2 r2 m2 e4 e5
            refine wp_region_quiet_tail_fr Nil 17 (by kernel_rfl) (by kernel_rfl) ?_
            simp only [List.take_succ_cons, List.take_zero, List.drop_succ_cons, List.drop_zero]
            repeat (first
              | ((with_reducible refine wpQuiet_loadD (dst := some 114) ?_ ?_ HDQ.out ?_); rfl; rfl; simp only [Act.put, List.getElem_toArray, List.getElem_cons_zero, List.getElem_cons_succ, List.setIfInBounds_toArray, List.set_cons_zero, List.set_cons_succ])
              | (go_big_quiet_step (first
                | (go_at_call 27; with_reducible exact quiet_call (KX.out _))
                | (go_at_call 26; with_reducible exact quiet_call (KA.out _)))))
            refine wpQuiet_nil ?_
            intro w9 hw'
            obtain ⟨⟨wq, hfq⟩, hw''⟩ := hw'
            subst hw''
            have HF9 := Lib.hid (HF1.out.trans hfq)
            have HB9 := Lib.hid (HBS1.out.fr hfq id)
            clear hfq q0 q1 q2 x0 x1 x2 HDQ
            refine wpList_storeT (g := w8.heap.size) (cs := dcells (sn + tn)) (old := dcells sn) (T := 41) (n := 9) rfl rfl digits_row HB9.out rfl rfl (dcells_one _) ?_
            intro ws hbs hfs
            have HBs := Lib.hid hbs
            have HFs := Lib.hid (Fr.then HF9.out hfs (fun i hi hlt => by omega))
            clear hbs hfs
            go_wp2_with fail
            go_roundw
            case rel => exact ⟨k + 1, by omega, by go_num, by rw [HT.out]; exact HBs.out, HFs.out⟩
            case measure => simp [intOf]; omega
          · obtain rfl : k = h.length := by omega
            replace SH := Lib.hid (SH.out.fr hf)
            replace HF := Lib.hid (HF.out.trans hf)
            have HSB := S_in (l := h) (by omega) (Nat.le_refl _) (fun j p _ hj => LH.out p (List.mem_of_getElem? hj))
            have KW := fun W => WideE.wide_any (S h h.length) W (by omega) (by omega)
            rw [KernC.told_in (by omega)] at KW
            have KWW := Lib.hid KW
            have KAR := Lib.hid (fun u W (k : Sl EPt W u h) => Area_any h u W (by omega) k LH.out)
            have HAS := Lib.hid (area_some HH.out LL.out)
            clear hf HFR KW
            go_wp2_with ((with_reducible refine wpList_loadT (dst := some 132) (n := 9) ?_ digits_row HBS.out rfl ?_); rfl)
            refine (KWW.out _).mono ?_
            rintro e w10 ⟨rfl, hf⟩
            replace SH := Lib.hid (SH.out.fr hf)
            replace HF := Lib.hid (HF.out.trans hf)
            obtain ⟨nh, hnh⟩ : ∃ x, S h h.length / 18446744073709551616 = x := ⟨_, rfl⟩
            obtain ⟨nl, hnl⟩ : ∃ x, S h h.length % 18446744073709551616 = x := ⟨_, rfl⟩
            have K2 := KAR.out
            rw [hnh, hnl] at K2
            rw [hnh, hnl]
            have KAR2 := Lib.hid K2
            have HZ := Lib.hid (show (h.length < 3 ∧ nh = 0 ∧ nl = 0) ∨ (¬ h.length < 3 ∧ ¬ nh = 0) ∨ (¬ h.length < 3 ∧ nh = 0 ∧ ¬ nl = 0) by
              have h1 := HAS.out
              omega)
            clear hf KAR K2 hnh hnl HAS HSB KWW
            have HFA : Fr Nil w10 (w10.alloc (.cells #[.int .i64 nh, .int .u64 nl] 56)) := (Fr.refl Nil w10).alloc _
            have HB11 := Lib.hid (Bk.new w10 56 #[.int .i64 nh, .int .u64 nl])
            replace SH := Lib.hid (SH.out.fr HFA)
            replace HF := Lib.hid (HF.out.trans HFA)
            clear HFA
            go_wp2_with fail
            refine (few20 (by omega) SH.out).mono ?_
            rintro e w11 ⟨u7, rfl, hf, ho⟩
            have S7 := Lib.hid (ho.sl EPt_ok)
            replace HB11 := Lib.hid (HB11.out.fr hf id)
            replace HF := Lib.hid (HF.out.trans hf)
            clear hf ho
            go_wp2_with fail
            refine (KAR2.out u7 _ S7.out).mono ?_
            rintro e w12 ⟨rfl, hf⟩
            replace HB11 := Lib.hid (HB11.out.fr hf id)
            replace HF := Lib.hid ((HF.out.trans hf).alloc (.cells #[.int .i64 nh, .int .u64 nl] 56))
            have hl1 : w10.heap.size < w12.heap.size := HB11.out.lt
            have hl2 : ¬ w10.heap.size = w12.heap.size := by omega
            obtain ⟨c0, c1', _, _⟩ := HB11.out.c2
            clear hf S7
            rcases HZ.out with ⟨h3, rfl, rfl⟩ | ⟨h3, hz⟩ | ⟨h3, rfl, hz⟩
            · have e3 : (h.length : Int) < 3 := by omega
              go_wp2_with fail
              refine (KLV.out _).mono ?_
              rintro e w13 ⟨rfl, hf⟩
              have HF9 := Lib.hid (HF.out.trans hf)
              go_wp2_with fail
              go_ret
              exact ⟨rfl, HF9.out⟩
            · have e3 : ¬ (h.length : Int) < 3 := by omega
              have eb3 : decide ((h.length : Int) < 3) = false := decide_eq_false e3
              go_wp2_with fail
              refine (KLV.out _).mono ?_
              rintro e w13 ⟨rfl, hf⟩
              have HF9 := Lib.hid (HF.out.trans hf)
              go_wp2_with fail
              go_ret
              exact ⟨rfl, HF9.out⟩
            · have e3 : ¬ (h.length : Int) < 3 := by omega
              have eb3 : decide ((h.length : Int) < 3) = false := decide_eq_false e3
              go_wp2_with fail
              refine (KLV.out _).mono ?_
              rintro e w13 ⟨rfl, hf⟩
              have HF9 := Lib.hid (HF.out.trans hf)
              go_wp2_with fail
              go_ret
              exact ⟨rfl, HF9.out⟩
end Go.Proofs.Ytalbaopfdejooaa.HullAe

