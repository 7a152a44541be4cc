/- Slices of any elements in memory: what comes in, what lies in a row of the call's own, and an append to it. -/
import Derived.Test.YtalbaopfdejooaaMem
import Derived.Test.YtalbaopfdejooaaLeaf
import Derived.WalkSpells
import Derived.WalkLawsBesides
import Derived.Lib.Hide
import Derived.Laws.AppendOwnNone
import Derived.Laws.OwnMore
namespace Go.Proofs.Ytalbaopfdejooaa.Slices
open Go.RowKit Base Leaf Go.ChangeShapes Go.WideShapes Go.ChangeAt Go.Deep
set_option linter.unusedVariables false
set_option linter.unusedSimpArgs false

/-- a kind of elements: the element's type, the slice's type, how many cells and bytes one has, and its cells -/
structure El (α : Type) where
  ty : TypeId
  sl : TypeId
  size : Nat
  bytes : Nat
  cells : α → List Value

/-- what the program says of it -/
structure El.Ok {α : Type} (P : Program) (E : El α) : Prop where
  under : P.underlying E.sl = some (.slice E.ty)
  info : ∃ i z, P.info? E.ty = some i ∧ i.zero = some z ∧ i.size = E.size ∧ i.bytes = E.bytes ∧ z.cells.size = E.size
  pos : 0 < E.size
  small : E.bytes ≤ 1024
  len : ∀ a, (E.cells a).length = E.size
  one : ∀ a, ∀ u ∈ E.cells a, u.oneCell' = true

section
variable {α : Type} {P : Program} {E : El α}

def flat (E : El α) (l : List α) : List Value := l.flatMap E.cells
/-- elements in a row -/
def Row (E : El α) (w : World) (g o : Nat) (l : List α) : Prop := ∀ (j : Nat) (u : Value), (flat E l)[j]? = some u → w.cell? ⟨g, o + j, none⟩ = some u
/-- a slice -/
def Sl (E : El α) (w : World) (v : Value) (l : List α) : Prop := (v = .slice none 0 0 ∧ l = []) ∨ ∃ g o cap, v = .slice (some ⟨g, o, none⟩) l.length cap ∧ l.length ≤ cap ∧ g < w.heap.size ∧ Row E w g o l
/-- a slice that comes in, wherever it lies -/
def Come (E : El α) (w : World) (v : Value) (l : List α) : Prop := (v = .slice none 0 0 ∧ l = []) ∨ ∃ a cap, v = .slice (some a) l.length cap ∧ l.length ≤ cap ∧ ∀ (j : Nat) (u : Value), (flat E l)[j]? = some u → w.cell? (a.add j) = some u
/-- a slice in memory of the call's own -/
def Own (E : El α) (w : World) (base : Nat) (v : Value) (l : List α) : Prop := w.ownsRow base E.ty E.size v l.length (flat E l)
/-- which blocks an append may turn -/
def Of (v : Value) : Nat → Prop := fun k => v.ownBlock = some k

theorem flat_nil : flat E [] = [] := rfl
theorem flat_append (a b : List α) : flat E (a ++ b) = flat E a ++ flat E b := by simp [flat]
theorem flat_len (h : E.Ok P) (l : List α) : (flat E l).length = l.length * E.size := by
  induction l with
  | nil => simp [flat]
  | cons a l ih =>
    unfold flat at ih ⊢
    rw [List.flatMap_cons, List.length_append, ih, h.len, List.length_cons, Nat.succ_mul, Nat.add_comm]
theorem flat_one (h : E.Ok P) (l : List α) : ∀ u ∈ flat E l, u.oneCell' = true := by
  intro u hu
  obtain ⟨a, _, hm⟩ := List.mem_flatMap.1 hu
  exact h.one a u hm
theorem flat_at (h : E.Ok P) : ∀ (l : List α) (i : Nat) (p : α), l[i]? = some p → ∀ (j : Nat) (u : Value), (E.cells p)[j]? = some u → (flat E l)[i * E.size + j]? = some u
  | [], i, p, hp, _, _, _ => by simp at hp
  | a :: l, 0, p, hp, j, u, hu => by
    simp at hp
    subst hp
    unfold flat
    rw [List.flatMap_cons, Nat.zero_mul, Nat.zero_add, List.getElem?_append_left (List.getElem?_eq_some_iff.1 hu).1]
    exact hu
  | a :: l, i + 1, p, hp, j, u, hu => by
    simp at hp
    have ih := flat_at h l i p hp j u hu
    unfold flat at ih ⊢
    rw [List.flatMap_cons, List.getElem?_append_right (by rw [h.len, Nat.succ_mul]; omega), h.len, Nat.succ_mul, show i * E.size + E.size + j - E.size = i * E.size + j by omega]
    exact ih
theorem flat_take (h : E.Ok P) (l : List α) (k : Nat) : flat E (l.take k) = (flat E l).take (k * E.size) := by
  induction l generalizing k with
  | nil => simp [flat]
  | cons a l ih =>
    cases k with
    | zero => simp [flat]
    | succ k =>
      have := ih k
      unfold flat at this ⊢
      rw [List.take_succ_cons, List.flatMap_cons, List.flatMap_cons, this, Nat.succ_mul, Nat.add_comm (k * E.size), ← h.len a, List.take_length_add_append]
theorem flat_drop (h : E.Ok P) (l : List α) (k : Nat) : flat E (l.drop k) = (flat E l).drop (k * E.size) := by
  induction l generalizing k with
  | nil => simp [flat]
  | cons a l ih =>
    cases k with
    | zero => simp [flat]
    | succ k =>
      have := ih k
      unfold flat at this ⊢
      rw [List.drop_succ_cons, List.flatMap_cons, this, Nat.succ_mul, Nat.add_comm (k * E.size), ← h.len a, List.drop_length_add_append]

/-- one element's cells -/
theorem Row.at (hE : E.Ok P) {w : World} {g o : Nat} {l : List α} (h : Row E w g o l) {i : Nat} {p : α} (hp : l[i]? = some p) {j : Nat} {u : Value} (hu : (E.cells p)[j]? = some u) : w.cell? ⟨g, o + (i * E.size + j), none⟩ = some u :=
  h _ _ (flat_at hE l i p hp j u hu)
theorem Row.fr {w w' : World} {g o : Nat} {l : List α} {S : Nat → Prop} (h : Row E w g o l) (hfr : Fr S w w') (ha : g < w.heap.size) (hs : ¬ S g) : Row E w' g o l := fun i s his => (hfr.cell (p := ⟨g, _, none⟩) ha hs).trans (h i s his)
theorem Row.take (hE : E.Ok P) {w : World} {g o : Nat} {l : List α} (h : Row E w g o l) (k : Nat) : Row E w g o (l.take k) := fun i u hu => by
  rw [flat_take hE, List.getElem?_take] at hu
  split at hu
  · exact h i u hu
  · cases hu
theorem Row.drop (hE : E.Ok P) {w : World} {g o : Nat} {l : List α} (h : Row E w g o l) (k : Nat) : Row E w g (o + k * E.size) (l.drop k) := fun i u hu => by
  rw [flat_drop hE, List.getElem?_drop] at hu
  rw [Nat.add_assoc]
  exact h _ u hu
theorem Sl.fr {w w' : World} {v : Value} {l : List α} (h : Sl E w v l) (hfr : Fr Nil w w') : Sl E w' v l := by
  rcases h with h | ⟨g, o, cap, rfl, hc, ha, hr⟩
  · exact Or.inl h
  · exact Or.inr ⟨g, o, cap, rfl, hc, Nat.lt_of_lt_of_le ha hfr.size, hr.fr hfr ha id⟩
theorem Sl.frS {w w' : World} {v : Value} {l : List α} {S : Nat → Prop} (h : Sl E w v l) (hf : Fr S w w') (hs : ∀ g, v.ownBlock = some g → ¬ S g) : Sl E w' v l := by
  rcases h with h | ⟨g, o, cap, rfl, hc, ha, hr⟩
  · exact Or.inl h
  · exact Or.inr ⟨g, o, cap, rfl, hc, Nat.lt_of_lt_of_le ha hf.size, hr.fr hf ha (hs g rfl)⟩
theorem Sl.shape {w : World} {v : Value} {l : List α} (h : Sl E w v l) : ∃ A c, v = .slice A l.length c := by
  rcases h with ⟨rfl, rfl⟩ | ⟨g, o, cap, rfl, _⟩
  · exact ⟨none, 0, rfl⟩
  · exact ⟨_, _, rfl⟩
theorem Come.fr {w w' : World} {v : Value} {l : List α} (h : Come E w v l) (hfr : Fr Nil w w') : Come E w' v l := by
  rcases h with h | ⟨a, cap, rfl, hc, hr⟩
  · exact Or.inl h
  · exact Or.inr ⟨a, cap, rfl, hc, fun j u hu => (hfr.cell (p := a.add j) (World.block_lt_of_cell? w _ (hr j u hu)) id).trans (hr j u hu)⟩
theorem Come.frS {w w' : World} {v : Value} {l : List α} {S : Nat → Prop} (h : Come E w v l) (hf : Fr S w w') (hs : ∀ g, v.ownBlock = some g → ¬ S g) : Come E w' v l := by
  rcases h with h | ⟨a, cap, rfl, hc, hr⟩
  · exact Or.inl h
  · exact Or.inr ⟨a, cap, rfl, hc, fun j u hu => (hf.cell (p := a.add j) (World.block_lt_of_cell? w _ (hr j u hu)) (by rw [Base.block_add]; exact hs _ rfl)).trans (hr j u hu)⟩
theorem Come.shape {w : World} {v : Value} {l : List α} (h : Come E w v l) : ∃ A c, v = .slice A l.length c := by
  rcases h with ⟨rfl, rfl⟩ | ⟨a, cap, rfl, _⟩
  · exact ⟨none, 0, rfl⟩
  · exact ⟨_, _, rfl⟩
theorem Sl.come {w : World} {v : Value} {l : List α} (h : Sl E w v l) : Come E w v l := by
  rcases h with h | ⟨g, o, cap, rfl, hc, ha, hr⟩
  · exact Or.inl h
  · refine Or.inr ⟨_, cap, rfl, hc, fun j u hu => ?_⟩
    have hadd : (⟨g, o, none⟩ : Addr).add j = ⟨g, o + j, none⟩ := by unfold Addr.add; split <;> simp_all
    rw [hadd]
    exact hr j u hu
theorem Come.take (hE : E.Ok P) {w : World} {a : Addr} {cap : Nat} {l : List α} (h : Come E w (.slice (some a) l.length cap) l) (k : Nat) (hk : k ≤ l.length) : Come E w (.slice (some a) k cap) (l.take k) := by
  rcases h with ⟨h, _⟩ | ⟨a', cap', he, hc, hr⟩
  · simp at h
  · simp only [Value.slice.injEq, Option.some.injEq] at he
    obtain ⟨rfl, _, rfl⟩ := he
    refine Or.inr ⟨a, cap, by rw [List.length_take, Nat.min_eq_left hk], by rw [List.length_take]; omega, fun j u hu => ?_⟩
    rw [flat_take hE, List.getElem?_take] at hu
    split at hu
    · exact hr j u hu
    · cases hu

theorem Own.sl (hE : E.Ok P) {w : World} {base : Nat} {v : Value} {l : List α} (h : Own E w base v l) : Sl E w v l := by
  rcases h.2 with ⟨rfl, h0⟩ | ⟨g, cap, cur, rfl, hb, hg, hnc, hm, hcs, ht⟩
  · exact Or.inl ⟨rfl, List.length_eq_zero_iff.1 h0⟩
  · refine Or.inr ⟨g, 0, cap, rfl, hnc, lt_of_block hg, fun j u hu => ?_⟩
    have hj : j < l.length * E.size := by rw [← flat_len hE]; exact (List.getElem?_eq_some_iff.1 hu).1
    rw [Nat.zero_add, World.ownsRow.cellAt h j hj]
    exact hu
theorem Own.nil (w : World) (base : Nat) : Own E w base (.slice none 0 0) [] := World.ownsRow_nil _ _ _ _
theorem Own.made {w : World} {base g : Nat} (h : base ≤ w.heap.size) (hg : g = w.heap.size) : Own E (w.alloc (.cells #[] E.ty)) base (.slice (some ⟨g, 0, none⟩) 0 0) [] := by
  subst hg
  exact World.ownsRow_made _ _ _ h (Nat.zero_le _) (by simp)
theorem Own.lit (hE : E.Ok P) {w : World} {base g : Nat} (l : List α) {cs : Array Value} (hcs : cs = (flat E l).toArray) (h : base ≤ w.heap.size) (hm : l.length ≤ maxLen) (hg : g = w.heap.size) : Own E (w.alloc (.cells cs E.ty)) base (.slice (some ⟨g, 0, none⟩) l.length l.length) l := by
  subst hg
  subst hcs
  have := World.ownsRow_lit (size := E.size) (e := E.ty) w (flat E l).toArray l.length h hm (by simp [flat_len hE])
  simpa [Own] using this
theorem Own.alloc {w : World} {base : Nat} {v : Value} {l : List α} (h : Own E w base v l) (x : Obj) : Own E (w.alloc x) base v l := World.ownsRow.alloc h x
theorem Own.lt {w : World} {base : Nat} {v : Value} {l : List α} (h : Own E w base v l) : ∀ g, v.ownBlock = some g → base ≤ g ∧ g < w.heap.size := World.ownsRow.lt h
theorem Own.fr {w w' : World} {base : Nat} {v : Value} {l : List α} {S : Nat → Prop} (h : Own E w base v l) (hf : Fr S w w') (hs : ∀ g, v.ownBlock = some g → ¬ S g) : Own E w' base v l := by
  refine ⟨h.1, ?_⟩
  rcases h.2 with hn | ⟨g, cap, cur, rfl, hb, hg, hr⟩
  · exact Or.inl hn
  · exact Or.inr ⟨g, cap, cur, rfl, hb, (hf.block g (lt_of_block hg) (hs g rfl)).trans hg, hr⟩
theorem Own.weaken {w : World} {base b' : Nat} {v : Value} {l : List α} (h : Own E w base v l) (hb : b' ≤ base) : Own E w b' v l := by
  refine ⟨h.1, ?_⟩
  rcases h.2 with hn | ⟨g, cap, cur, rfl, hg, hr⟩
  · exact Or.inl hn
  · exact Or.inr ⟨g, cap, cur, rfl, Nat.le_trans hb hg, hr⟩
theorem Own.shape {w : World} {base : Nat} {v : Value} {l : List α} (h : Own E w base v l) : (v = .slice none 0 0 ∧ l = []) ∨ ∃ g cap, v = .slice (some ⟨g, 0, none⟩) l.length cap ∧ l.length ≤ cap ∧ cap ≤ maxLen ∧ base ≤ g ∧ g < w.heap.size := by
  rcases h.2 with ⟨rfl, h0⟩ | ⟨g, cap, cur, rfl, hb, hg, hnc, hm, hcs, ht⟩
  · exact Or.inl ⟨rfl, List.length_eq_zero_iff.1 h0⟩
  · exact Or.inr ⟨g, cap, rfl, hnc, hm, hb, lt_of_block hg⟩
/-- cut at the end, in place -/
theorem Own.take (hE : E.Ok P) {w : World} {base g cap : Nat} {l : List α} (h : Own E w base (.slice (some ⟨g, 0, none⟩) l.length cap) l) (k : Nat) (hk : k ≤ l.length) : Own E w base (.slice (some ⟨g, 0, none⟩) k cap) (l.take k) := by
  have hl : (l.take k).length = k := by rw [List.length_take]; omega
  refine ⟨by rw [hl, flat_len hE, hl], ?_⟩
  rcases h.2 with ⟨h', _⟩ | ⟨g', cap', cur, he, hb, hg, hnc, hm, hcs, ht⟩
  · simp at h'
  · simp only [Value.slice.injEq, Option.some.injEq, Addr.mk.injEq, and_true, true_and] at he
    obtain ⟨rfl, rfl⟩ := he
    refine Or.inr ⟨g, cap, cur, by rw [hl], hb, hg, by omega, hm, hcs, ?_⟩
    rw [hl, flat_take hE, ← ht, List.take_take, Nat.min_eq_left (Nat.mul_le_mul_right _ hk)]
/-- one element rewritten cell by cell: the cell -/
theorem Own.frozen {w : World} {base g cap : Nat} {l : List α} (h : Own E w base (.slice (some ⟨g, 0, none⟩) l.length cap) l) (j : Nat) : w.frozen? ⟨g, j, none⟩ = false := World.ownsRow.frozenAt h j

/-- where an append ends up: in the same block, or in a new one -/
theorem append_block (hE : E.Ok P) {w w' : World} {base : Nat} {v v' : Value} {l : List α} (ty : TypeId) (hown : Own E w base v l) (a : Addr) (m c : Nat) (news : List Value) (hl : news.length = m * E.size) (hnews : ∀ j u, news[j]? = some u → w.cell? (a.add j) = some u) (h1 : ∀ u ∈ news, u.oneCell' = true)
    (hb : l.length + m ≤ 1000000) (hr : (Builtin.append_ #[E.sl, E.sl] ty #[v, .slice (some a) m c]).run P w = .ok v' w') : ∀ g, v'.ownBlock = some g → v.ownBlock = some g ∨ w.heap.size ≤ g := by
  obtain ⟨i, z, hi, hz, h2, h3, h4⟩ := hE.info
  have hbytes : (l.length + m) * E.bytes ≤ 1000000 * 1024 := Nat.mul_le_mul hb hE.small
  intro g hg
  rcases hown.2 with ⟨rfl, h0⟩ | ⟨g0, cap, cur, rfl, hbg, hg0, hnc, hcm, hcs, htake⟩
  · by_cases hm : m = 0
    · subst hm
      have hn : news = [] := List.eq_nil_of_length_eq_zero (by simpa using hl)
      subst hn
      have hr' : (Builtin.append_ #[E.sl, E.sl] ty #[.slice none 0 0, .slice (some a) 0 c]).run P w = .ok (.slice none 0 0) w := by
        simp [Builtin.append_, run_underlying hE.under, sizeOf, typeInfo, hi, Builtin.lenOf, Builtin.firstCells, loadCells, loadCellsFrom]
      rw [hr'] at hr
      simp at hr
      obtain ⟨rfl, rfl⟩ := hr
      cases hg
    · have hr' := run_append_nil (P := P) w E.sl ty E.ty i z hE.under hi hz a m c news (by rw [h2]; exact hl) hnews (by omega) (by omega) (by rw [h3]; have : m * E.bytes ≤ (l.length + m) * E.bytes := Nat.mul_le_mul_right _ (by omega); omega)
      rw [hr'] at hr
      simp at hr
      obtain ⟨rfl, rfl⟩ := hr
      simp [Value.ownBlock] at hg
      omega
  · by_cases hroom : l.length + m ≤ cap
    · have hfit : l.length * i.size + news.length ≤ cur.size := by rw [h2, hl, hcs, ← Nat.add_mul]; exact Nat.mul_le_mul_right _ hroom
      have hr' := run_append_room (P := P) w E.sl ty E.ty i hE.under hi g0 l.length cap cur hg0 a m c news (by rw [h2]; exact hl) hnews h1 hroom hfit
      rw [hr'] at hr
      simp at hr
      obtain ⟨rfl, rfl⟩ := hr
      exact Or.inl hg
    · have hgr := growslice_fits (need := l.length + m) (old := cap) (bytes := i.bytes) (h := by omega) (hb := by rw [h3]; omega)
      have hr' := run_append_grow (P := P) w E.sl ty E.ty i z hE.under hi hz ⟨g0, 0, none⟩ l.length cap (flat E l) (by rw [h2]; exact hown.1) (World.ownsRow.cells hown (g := g0) rfl) a m c news (by rw [h2]; exact hl) hnews (by omega) (by omega) hgr
      rw [hr'] at hr
      simp at hr
      obtain ⟨rfl, rfl⟩ := hr
      simp [Value.ownBlock] at hg
      omega

theorem wp_app (hE : E.Ok P) {o : Oper} {a : Act} {K : Act → World → Prop} {Q : Exit → Act → World → Prop} {w : World} (s x : Operand) (t : TypeId)
    (ho : o.op = .call { callee := .builtin .append, args := #[s, x], argTypes := #[t, t] }) (ht : t = E.sl)
    (base : Nat) (v y : Value) (l1 l2 : List α) (hs : a.eval s = v) (hown : Own E w base v l1) (hx : a.eval x = y) (hy : Come E w y l2) (hl : l1.length + l2.length ≤ 1000000) (hbase : base ≤ w.heap.size)
    (h : ∀ v' w', Own E w' base v' (l1 ++ l2) → Fr (Of v) w w' → (∀ g, v'.ownBlock = some g → v.ownBlock = some g ∨ w.heap.size ≤ g) → (v' = .slice none 0 0 → v = .slice none 0 0) → K (a.put o.dst v') w') : o.wp P a w K Q := by
  subst ht
  obtain ⟨i, z, hi, hz, h2, h3, h4⟩ := hE.info
  have hbytes : (l1.length + l2.length) * E.bytes ≤ 1000000 * 1024 := Nat.mul_le_mul hl hE.small
  rcases hy with ⟨rfl, rfl⟩ | ⟨ad, cap, rfl, hc, hr⟩
  · have hrun := run_append_owned_none (P := P) (w := w) base E.sl o.type E.ty i E.size hE.under hi v l1.length (flat E l1) hown
    unfold Oper.wp
    simp [execOp, ho, resolve, invoke, builtin, hs, hx, hrun, Result.andThen]
    exact h _ _ (by rw [List.append_nil]; exact hown) (Fr.refl _ _) (fun g hg => Or.inl hg) id
  · obtain ⟨v', w', hrun, g2, g3, g4⟩ := run_append_own (P := P) w base E.sl o.type E.ty i z E.size E.bytes hE.under hi hz h2 h3 h4 hE.pos v l1.length (flat E l1) hown ad l2.length cap (flat E l2) (flat_len hE l2) hr (flat_one hE _) (by unfold maxLen; omega) (by omega) hbase
    have hb := append_block hE o.type hown ad l2.length cap (flat E l2) (flat_len hE l2) hr (flat_one hE _) hl hrun
    unfold Oper.wp execOp
    simp only [ho, resolve, invoke, builtin, Sem.run_bind, Sem.run_pure, Result.andThen_ok, List.map_toArray, List.map_cons, List.map_nil, hs, hx, hrun]
    refine h v' w' ?_ (Fr.of_grown g3 fun g hg _ => hg) hb fun e => (g4.1 e).1
    unfold Own
    rw [List.length_append, flat_append]
    exact g2

theorem wpList_app (hE : E.Ok P) {ops : Array Oper} {rest : List Oper} {o : Oper} {a : Act} {Q : Exit → Act → World → Prop} {w : World} (hgd : o.guard = none) (s x : Operand) (t : TypeId)
    (ho : o.op = .call { callee := .builtin .append, args := #[s, x], argTypes := #[t, t] }) (ht : t = E.sl)
    (base : Nat) (v y : Value) (l1 l2 : List α) (hs : a.eval s = v) (hown : Own E w base v l1) (hx : a.eval x = y) (hy : Come E w y l2) (hl : l1.length + l2.length ≤ 1000000) (hbase : base ≤ w.heap.size)
    (h : ∀ v' w', Own E w' base v' (l1 ++ l2) → Fr (Of v) w w' → (∀ g, v'.ownBlock = some g → v.ownBlock = some g ∨ w.heap.size ≤ g) → (v' = .slice none 0 0 → v = .slice none 0 0) → wpList P ops Q rest (a.put o.dst v') w') : wpList P ops Q (o :: rest) a w :=
  wpList_plain hgd fun _ hK => wp_app hE s x t ho ht base v y l1 l2 hs hown hx hy hl hbase fun v' w' h1 h2 h3 h4 => hK _ _ (h v' w' h1 h2 h3 h4)

theorem lit_sl (hE : E.Ok P) {w : World} {g : Nat} (l : List α) {cs : Array Value} (hcs : cs = (flat E l).toArray) (hg : g = w.heap.size) (t : TypeId) : Sl E (w.alloc (.cells cs t)) (.slice (some ⟨g, 0, none⟩) l.length l.length) l := by
  subst hg
  subst hcs
  refine Or.inr ⟨w.heap.size, 0, l.length, rfl, Nat.le_refl _, by simp, fun j u hu => ?_⟩
  rw [Nat.zero_add, (Bk.new w t (flat E l).toArray).cell j]
  simpa using hu
end

section
variable {α : Type} {P : Program} {E : El α} {H : Type} {enc : TypeId × Value → H} {w : World} {base : Nat} {spare : Nat → Bool} {held : Bool}
/-- a slice of flat elements, as it is read -/
theorem come_of_trod {fuel : Nat} {cs : List Value} {x : DataW H × List MemPlace} (hE : E.Ok P) (n : Nat) {ks : List LK} (hL : leaves P n E.ty = some ks) (hC : P.cellsOf E.ty = E.size) (dec : List Value → α) (hdec : ∀ vs, Leafs ks vs → E.cells (dec vs) = vs)
    (hf : DataW.trod enc P w base spare held fuel E.sl cs = some x) : ∃ (v : Value) (l : List α), cs = [v] ∧ Come E w v l ∧ l.length ≤ maxLen ∧ (∀ a ∈ l, ∃ vs, Leafs ks vs ∧ a = dec vs) := by
  rcases open_slice hE.under hf with ⟨h0, _⟩ | ⟨a, n0, c0, m, n', D, Pl, hcs, hb, hl, hm, hmm, hx, hel⟩
  · subst h0
    exact ⟨_, [], rfl, Or.inl ⟨rfl, rfl⟩, Nat.zero_le _, by simp⟩
  · subst hcs
    have hlm : n0 ≤ m := by rw [hmm]; split <;> omega
    have hex : ∀ i, i < n0 → ∃ vs : List Value, Leafs ks vs ∧ ∀ (j : Nat) (u : Value), vs[j]? = some u → w.cell? ((a.add (i * E.size)).add j) = some u := by
      intro i him
      obtain ⟨cs', hc, ht'⟩ := hel i (by omega)
      rw [hC] at hc
      have hlf := leaves_at n n' E.ty ks cs' _ hL ht'
      obtain ⟨hn, _, hat⟩ := World.cells?_some hc
      refine ⟨cs', hlf, fun j u hu => ?_⟩
      have hj : j < E.size := by
        have := (List.getElem?_eq_some_iff.1 hu).1
        have e := hdec _ hlf
        have e2 := hE.len (dec cs')
        rw [e] at e2
        omega
      rw [hat j hj]
      exact hu
    obtain ⟨R, hR⟩ : ∃ R : Nat → List Value, ∀ i, i < n0 → Leafs ks (R i) ∧ ∀ (j : Nat) (u : Value), (R i)[j]? = some u → w.cell? ((a.add (i * E.size)).add j) = some u := by
      refine ⟨fun i => if h : i < n0 then (hex i h).choose else [], fun i hi => ?_⟩
      simp only [dif_pos hi]
      exact (hex i hi).choose_spec
    refine ⟨_, (List.range n0).map fun i => dec (R i), rfl, Or.inr ⟨a, c0, by simp, by simpa using hl, ?_⟩, by simp; omega, ?_⟩
    · intro j u hu
      have hjl : j < n0 * E.size := by
        have := (List.getElem?_eq_some_iff.1 hu).1
        rw [flat_len hE] at this
        simpa using this
      have hi : j / E.size < n0 := (Nat.div_lt_iff_lt_mul hE.pos).2 hjl
      have hmod : j % E.size < E.size := Nat.mod_lt _ hE.pos
      have hje : j = j / E.size * E.size + j % E.size := by rw [Nat.mul_comm]; exact (Nat.div_add_mod _ _).symm
      have hcl : (E.cells (dec (R (j / E.size))))[j % E.size]? = some ((E.cells (dec (R (j / E.size))))[j % E.size]'(by rw [hE.len]; exact hmod)) := List.getElem?_eq_getElem _
      have h3 := flat_at hE ((List.range n0).map fun i => dec (R i)) (j / E.size) (dec (R (j / E.size))) (by simp [hi]) _ _ hcl
      rw [← hje, hu] at h3
      simp only [Option.some.injEq] at h3
      rw [← h3] at hcl
      rw [hdec _ (hR _ hi).1] at hcl
      have h4 := (hR _ hi).2 _ _ hcl
      rw [Base.add_add, ← hje] at h4
      exact h4
    · intro p hp
      obtain ⟨i, hi, rfl⟩ := List.mem_map.1 hp
      exact ⟨R i, (hR i (List.mem_range.1 hi)).1, rfl⟩

/-- a slice of flat elements, as an argument -/
theorem open_come {r : Reach} {b0 : Nat} {v : Value} {d : DataW H} {ps : List MemPlace} (hE : E.Ok P) (n : Nat) {ks : List LK} (hL : leaves P n E.ty = some ks) (hC : P.cellsOf E.ty = E.size) (dec : List Value → α) (hdec : ∀ vs, Leafs ks vs → E.cells (dec vs) = vs)
    (hval : Value.okWide P w r b0 E.sl v) (hd : DataW.Trod enc P w base spare held E.sl v d ps) : ∃ l : List α, Come E w v l ∧ l.length ≤ maxLen ∧ (∀ a ∈ l, ∃ vs, Leafs ks vs ∧ a = dec vs) := by
  obtain ⟨fuel, hf⟩ := hd
  obtain ⟨A0, n0, c0, rfl⟩ := okWide_slice hE.under hval
  have hf : DataW.trod enc P w base spare held fuel E.sl [.slice A0 n0 c0] = some (d, ps) := hf
  obtain ⟨v', l, h1, h2, h3, h4⟩ := come_of_trod hE n hL hC dec hdec hf
  simp at h1
  subst h1
  exact ⟨l, h2, h3, h4⟩
end
end Go.Proofs.Ytalbaopfdejooaa.Slices
