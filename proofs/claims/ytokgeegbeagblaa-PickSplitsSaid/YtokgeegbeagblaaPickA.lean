/- Chapter 8: the walk of few; an append that tells where it ends up. -/
import Derived.Test.YtokgeegbeagblaaSortO
import Derived.Test.YtokgeegbeagblaaSlices
namespace Go.Proofs.Ytokgeegbeagblaa.PickA
open Go.RowKit Base SortA SortB SortC SortD SortE SortI
set_option linter.unusedVariables false
set_option linter.unusedSimpArgs false

theorem few_some (l : List Pr) (a : Addr) (cap : Nat) (w : World) (hl : l.length ≤ maxLen) (hc : l.length ≤ cap) (hr : ∀ (j : Nat) (u : Value), (flat l)[j]? = some u → w.cell? (a.add j) = some u) :
    Calls Try.prog 7 #[.slice (some a) l.length cap] w fun e w' => ∃ u, e = .returned u ∧ Fr Nil w w' ∧ w'.ownsRow w.heap.size 28 2 u (l.take 120).length (flat (l.take 120)) ∧ u ≠ .slice none 0 0 := by
  have hl' : l.length ≤ 9223372036854775807 := hl
  clear hl
  obtain ⟨i0, hi, hz0, hz1, hz2⟩ := info_parts Try.info_pair
  have hcells : ∀ (x : Obj) (j : Nat) (u : Value), (flat (l.take 120))[j]? = some u → (w.alloc x).cell? (a.add j) = some u := by
    intro x j u hu
    have e : l = l.take 120 ++ l.drop 120 := (List.take_append_drop 120 l).symm
    have hx : (flat l)[j]? = some u := by
      rw [e, flat_append, List.getElem?_append_left (List.getElem?_eq_some_iff.1 hu).1]
      exact hu
    rw [World.cell?_alloc_lt _ _ _ (World.block_lt_of_cell? w _ (hr j u hx))]
    exact hr j u hx
  have HC := Lib.hid (hcells (.cells #[] 28))
  clear hr hcells
  by_cases h60 : (120 : Int) < l.length
  · have h2 : (120 : Int) ≤ cap := by omega
    have hlen : (l.take 120).length = 120 := by rw [List.length_take]; omega
    go_enter Try.func7, Try.ntmps7
    go_wp2_with (at_builtin; refine wpList_append_own _ rfl (.tmp 8) (.tmp 9) 22 rfl w.heap.size 28 i0 _ 2 16 Try.underlying22 hi hz0 hz1 hz2 rfl (by decide) _ 0 [] rfl (World.ownsRow_made _ _ _ (Nat.le_refl _) (Nat.zero_le _) rfl) a 120 _ (flat (l.take 120)) rfl (by rw [flat_len, hlen]) ?_ (flat_one _) (by unfold maxLen; omega) (by omega) (by simp) ?_; rotate_left; intro v' w1 hown' hgrow hnil)
    go_ret
    exact ⟨v', rfl, ((Fr.refl _ _).alloc _).append hgrow (fun g hg => by cases hg; exact Nat.le_refl _), by simpa [hlen] using hown', fun h => by have := (hnil.1 h).1; cases this⟩
    exact HC.out
  · have hlen : (l.take 120).length = l.length := by rw [List.length_take]; omega
    go_enter Try.func7, Try.ntmps7
    go_wp2_with (at_builtin; refine wpList_append_own _ rfl (.tmp 8) (.tmp 9) 22 rfl w.heap.size 28 i0 _ 2 16 Try.underlying22 hi hz0 hz1 hz2 rfl (by decide) _ 0 [] rfl (World.ownsRow_made _ _ _ (Nat.le_refl _) (Nat.zero_le _) rfl) a l.length _ (flat (l.take 120)) rfl (by rw [flat_len, hlen]) ?_ (flat_one _) (by unfold maxLen; omega) (by omega) (by simp) ?_; rotate_left; intro v' w1 hown' hgrow hnil)
    go_ret
    exact ⟨v', rfl, ((Fr.refl _ _).alloc _).append hgrow (fun g hg => by cases hg; exact Nat.le_refl _), by simpa [hlen] using hown', fun h => by have := (hnil.1 h).1; cases this⟩
    exact HC.out

theorem few_none (w : World) : Calls Try.prog 7 #[.slice none 0 0] w fun e w' => ∃ u, e = .returned u ∧ Fr Nil w w' ∧ w'.ownsRow w.heap.size 28 2 u 0 [] ∧ u ≠ .slice none 0 0 := by
  obtain ⟨i0, hi, hz0, hz1, hz2⟩ := info_parts Try.info_pair
  go_enter Try.func7, Try.ntmps7
  go_wp2_with (at_builtin; refine wpList_append_own_none rfl (.tmp 8) (.tmp 9) 22 rfl w.heap.size 28 i0 2 Try.underlying22 hi _ 0 [] rfl (World.ownsRow_made _ _ _ (Nat.le_refl _) (Nat.zero_le _) rfl) rfl ?_)
  go_ret
  exact ⟨_, rfl, (Fr.refl _ _).alloc _, World.ownsRow_made _ _ _ (Nat.le_refl _) (Nat.zero_le _) rfl, by simp⟩

theorem few_any (l : List Pr) (v : Value) (w : World) (hl : l.length ≤ maxLen) (hv : Come w v l) :
    Calls Try.prog 7 #[v] w fun e w' => ∃ u, e = .returned u ∧ Fr Nil w w' ∧ Own w' w.heap.size u (l.take 120) ∧ u ≠ .slice none 0 0 := by
  rcases hv with ⟨rfl, rfl⟩ | ⟨a, cap, rfl, hc, hr⟩
  · exact few_none w
  · exact few_some l a cap w hl hc hr

/-- few, of a list that is short -/
theorem few_sl (l : List Pr) (v : Value) (w : World) (hl : l.length ≤ 120) (hv : Sl w v l) :
    Calls Try.prog 7 #[v] w fun e w' => ∃ u, e = .returned u ∧ Fr Nil w w' ∧ Sl w' u l := by
  have h := few_any l v w (by unfold maxLen; omega) (by
    rcases hv with h | ⟨g, o, cap, rfl, hc, ha, hr⟩
    · exact Or.inl h
    · exact Or.inr ⟨_, cap, rfl, hc, hr.flat⟩)
  rw [List.take_of_length_le hl] at h
  exact h.mono fun e w' ⟨u, he, hf, ho, _⟩ => ⟨u, he, hf, Sl.of_own ho rfl⟩

def EP : Slices.El Pr := { ty := 28, sl := 22, size := 2, bytes := 16, cells := pc }
theorem EP_ok : EP.Ok Try.prog where
  under := Try.underlying22
  info := by
    obtain ⟨i0, hi, hz0, hz1, hz2⟩ := info_parts Try.info_pair
    exact ⟨i0, _, hi, hz0, hz1, hz2, rfl⟩
  pos := by decide
  small := by decide
  len := fun _ => rfl
  one := fun a u hu => by simp [EP, pc] at hu; rcases hu with rfl | rfl <;> rfl

/-- an append that tells where it ends up -/
theorem wpList_appB {ops : Array Oper} {rest : List Oper} {o : Oper} {a : Act} {Q : Exit → Act → World → Prop} {w : World} (hgd : o.guard = none) (s x : Operand)
    (ho : o.op = .call { callee := .builtin .append, args := #[s, x], argTypes := #[22, 22] })
    (base : Nat) (v y : Value) (l1 l2 : List Pr) (hs : a.eval s = v) (hown : Own w base v l1) (hx : a.eval x = y) (hy : Sl w y l2) (hl : l1.length + l2.length ≤ 100000) (hbase : base ≤ w.heap.size)
    (h : ∀ v' w', Own w' base v' (l1 ++ l2) → Fr (Of v) w w' → (∀ g, v'.ownBlock = some g → v.ownBlock = some g ∨ w.heap.size ≤ g) → (v' = .slice none 0 0 → v = .slice none 0 0) → wpList Try.prog ops Q rest (a.put o.dst v') w') : wpList Try.prog ops Q (o :: rest) a w :=
  Slices.wpList_app (E := EP) EP_ok hgd s x 22 ho rfl base v y l1 l2 hs hown hx (by
    rcases hy with h | ⟨g, o, cap, rfl, hc, ha, hr⟩
    · exact Or.inl h
    · exact Or.inr ⟨_, cap, rfl, hc, hr.flat⟩) (by omega) hbase h
theorem Own.lt {w : World} {base : Nat} {v : Value} {l : List Pr} (h : Own w base v l) : ∀ g, v.ownBlock = some g → base ≤ g ∧ g < w.heap.size := World.ownsRow.lt h

/-- three lists that are cut out of one -/
def lo (n : Int) (l : List Pr) : List Pr := l.filter fun x => decide (x.1 < n)
def hi (n : Int) (l : List Pr) : List Pr := l.filter fun x => decide (n < x.1)
def mi (n : Int) (l : List Pr) : List Pr := l.filter fun x => decide (x.1 = n)
theorem cut_step (q : Pr → Bool) {l : List Pr} {k : Nat} {x : Pr} (h : l[k]? = some x) : (l.take (k + 1)).filter q = if q x then (l.take k).filter q ++ [x] else (l.take k).filter q := by
  obtain ⟨hk, rfl⟩ := List.getElem?_eq_some_iff.1 h
  rw [List.take_succ_eq_append_getElem hk, List.filter_append]
  by_cases hq : q l[k] = true
  · simp [hq]
  · simp [hq]
theorem cut_low {l : List Pr} {k : Nat} {x : Pr} {n : Int} (h : l[k]? = some x) (hx : x.1 < n) : lo n (l.take (k + 1)) = lo n (l.take k) ++ [x] ∧ mi n (l.take (k + 1)) = mi n (l.take k) ∧ hi n (l.take (k + 1)) = hi n (l.take k) := by
  unfold lo mi hi
  rw [cut_step _ h, cut_step _ h, cut_step _ h]
  simp [hx]; omega
theorem cut_high {l : List Pr} {k : Nat} {x : Pr} {n : Int} (h : l[k]? = some x) (hx : n < x.1) : lo n (l.take (k + 1)) = lo n (l.take k) ∧ mi n (l.take (k + 1)) = mi n (l.take k) ∧ hi n (l.take (k + 1)) = hi n (l.take k) ++ [x] := by
  unfold lo mi hi
  rw [cut_step _ h, cut_step _ h, cut_step _ h]
  simp [hx]; omega
theorem cut_mid {l : List Pr} {k : Nat} {x : Pr} {n : Int} (h : l[k]? = some x) (h1 : ¬ x.1 < n) (h2 : ¬ n < x.1) : lo n (l.take (k + 1)) = lo n (l.take k) ∧ mi n (l.take (k + 1)) = mi n (l.take k) ++ [x] ∧ hi n (l.take (k + 1)) = hi n (l.take k) := by
  have e : x.1 = n := by omega
  unfold lo mi hi
  rw [cut_step _ h, cut_step _ h, cut_step _ h]
  simp [e]
theorem cut_len (q : Pr → Bool) (l : List Pr) (k : Nat) : ((l.take k).filter q).length ≤ l.length := by
  have h1 := List.length_filter_le q (l.take k)
  rw [List.length_take] at h1
  omega

/-- three slices of the call's own, each in memory of its own -/
def Three (base : Nat) (w : World) (a b c : Value) (x y z : List Pr) : Prop :=
  Own w base a x ∧ Own w base b y ∧ Own w base c z ∧ (∀ g, a.ownBlock = some g → b.ownBlock ≠ some g ∧ c.ownBlock ≠ some g) ∧ ∀ g, b.ownBlock = some g → c.ownBlock ≠ some g
theorem Three.fr {base : Nat} {w w' : World} {a b c : Value} {x y z : List Pr} (h : Three base w a b c x y z) (hf : Fr Nil w w') : Three base w' a b c x y z :=
  ⟨h.1.fr hf fun _ _ => id, h.2.1.fr hf fun _ _ => id, h.2.2.1.fr hf fun _ _ => id, h.2.2.2⟩
theorem Three.nil {w : World} {base : Nat} : Three base w (.slice none 0 0) (.slice none 0 0) (.slice none 0 0) [] [] [] :=
  ⟨World.ownsRow_nil _ _ _ _, World.ownsRow_nil _ _ _ _, World.ownsRow_nil _ _ _ _, fun _ h => by (first | cases h | simp [Value.ownBlock] at h), fun _ h => by (first | cases h | simp [Value.ownBlock] at h)⟩
theorem Three.one {base : Nat} {w w' : World} {a b c a' : Value} {x y z x' : List Pr} (h : Three base w a b c x y z) (ho : Own w' base a' x') (hf : Fr (Of a) w w') (hb : ∀ g, a'.ownBlock = some g → a.ownBlock = some g ∨ w.heap.size ≤ g) : Three base w' a' b c x' y z := by
  obtain ⟨h1, h2, h3, h4, h5⟩ := h
  refine ⟨ho, h2.fr hf fun g hg he => (h4 g he).1 hg, h3.fr hf fun g hg he => (h4 g he).2 hg, fun g hg => ?_, h5⟩
  rcases hb g hg with h | h
  · exact h4 g h
  · exact ⟨fun hg' => by have := (Own.lt h2 g hg').2; omega, fun hg' => by have := (Own.lt h3 g hg').2; omega⟩
theorem Three.two {base : Nat} {w w' : World} {a b c b' : Value} {x y z y' : List Pr} (h : Three base w a b c x y z) (ho : Own w' base b' y') (hf : Fr (Of b) w w') (hb : ∀ g, b'.ownBlock = some g → b.ownBlock = some g ∨ w.heap.size ≤ g) : Three base w' a b' c x y' z := by
  obtain ⟨h1, h2, h3, h4, h5⟩ := h
  refine ⟨h1.fr hf fun g hg he => (h4 g hg).1 he, ho, h3.fr hf fun g hg he => h5 g he hg, fun g hg => ⟨fun hg' => ?_, (h4 g hg).2⟩, fun g hg hg' => ?_⟩
  · rcases hb g hg' with h | h
    · exact (h4 g hg).1 h
    · have := (Own.lt h1 g hg).2; omega
  · rcases hb g hg with h | h
    · exact h5 g h hg'
    · have := (Own.lt h3 g hg').2; omega
theorem Three.three {base : Nat} {w w' : World} {a b c c' : Value} {x y z z' : List Pr} (h : Three base w a b c x y z) (ho : Own w' base c' z') (hf : Fr (Of c) w w') (hb : ∀ g, c'.ownBlock = some g → c.ownBlock = some g ∨ w.heap.size ≤ g) : Three base w' a b c' x y z' := by
  obtain ⟨h1, h2, h3, h4, h5⟩ := h
  refine ⟨h1.fr hf fun g hg he => (h4 g hg).2 he, h2.fr hf fun g hg he => h5 g hg he, ho, fun g hg => ⟨(h4 g hg).1, fun hg' => ?_⟩, fun g hg hg' => ?_⟩
  · rcases hb g hg' with h | h
    · exact (h4 g hg).2 h
    · have := (Own.lt h1 g hg).2; omega
  · rcases hb g hg' with h | h
    · exact h5 g hg h
    · have := (Own.lt h2 g hg).2; omega
end Go.Proofs.Ytokgeegbeagblaa.PickA
