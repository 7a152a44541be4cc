/- Arguments made of ints and bools alone, however nested in structs and arrays: what their cells are. -/
import Derived.Test.YtalbaopfdejooaaBase
import Derived.Deep.Slices
import Derived.ProofKit
import Derived.OpenShut
namespace Go.Proofs.Ytalbaopfdejooaa.Leaf
open Go.ChangeShapes Go.WideShapes Go.ChangeAt Go.RowKit Go.Deep Base

/-- what one cell holds -/
inductive LK where
  | i (k : IntKind)
  | b

def leaf : LK → Value → Prop
  | .i k, v => ∃ n, v = .int k n ∧ k.min ≤ n ∧ n ≤ k.max
  | .b, v => ∃ c, v = .bool c

/-- each cell is of its kind -/
def Leafs : List LK → List Value → Prop
  | [], vs => vs = []
  | k :: ks, vs => ∃ v vs', vs = v :: vs' ∧ leaf k v ∧ Leafs ks vs'

def fieldLeaves (P : Program) (rec : TypeId → Option (List LK)) : List Field → Nat → Option (List LK)
  | [], _ => some []
  | f :: fs, off =>
    if f.offset = off then
      match rec f.type with
      | some l => if P.cellsOf f.type = l.length then (match fieldLeaves P rec fs (off + l.length) with | some r => some (l ++ r) | none => none) else none
      | none => none
    else none

/-- the kinds of a type's cells -/
def leaves (P : Program) : Nat → TypeId → Option (List LK)
  | 0, _ => none
  | n + 1, t => match P.underlying t with
    | some (.int k) => some [.i k]
    | some .bool => some [.b]
    | some (.struct fs) => match fieldLeaves P (leaves P n) fs.toList 0 with | some l => if P.cellsOf t = l.length then some l else none | none => none
    | some (.array m e) => match leaves P n e with | some l => if P.cellsOf e = l.length ∧ P.cellsOf t = m * l.length then some ((List.replicate m l).flatten) else none | none => none
    | _ => none

theorem Leafs.length : ∀ {ks : List LK} {vs : List Value}, Leafs ks vs → vs.length = ks.length
  | [], vs, h => by unfold Leafs at h; subst h; rfl
  | k :: ks, vs, h => by
    unfold Leafs at h
    obtain ⟨v, vs', rfl, _, h2⟩ := h
    simp [Leafs.length h2]
theorem Leafs.append : ∀ {ks ls : List LK} {vs us : List Value}, Leafs ks vs → Leafs ls us → Leafs (ks ++ ls) (vs ++ us)
  | [], ls, vs, us, h, h' => by unfold Leafs at h; subst h; exact h'
  | k :: ks, ls, vs, us, h, h' => by
    unfold Leafs at h
    obtain ⟨v, vs', rfl, h1, h2⟩ := h
    show Leafs (k :: (ks ++ ls)) (v :: (vs' ++ us))
    unfold Leafs
    exact ⟨v, _, rfl, h1, Leafs.append h2 h'⟩
theorem Leafs.cons {k : LK} {ks : List LK} {vs : List Value} (h : Leafs (k :: ks) vs) : ∃ v vs', vs = v :: vs' ∧ leaf k v ∧ Leafs ks vs' := h

section
variable {H : Type} {enc : TypeId × Value → H} {P : Program} {w : World} {base : Nat} {spare : Nat → Bool} {held : Bool}

theorem fields_at (rec : TypeId → Option (List LK)) (cs : List Value) (ok : TypeId → List Value → Prop) (hrec : ∀ t l ds, rec t = some l → ok t ds → Leafs l ds) :
    ∀ (fs : List Field) (off : Nat) (l : List LK), fieldLeaves P rec fs off = some l → (∀ f ∈ fs, ok f.type ((cs.drop f.offset).take (P.cellsOf f.type))) → off + l.length ≤ cs.length → Leafs l ((cs.drop off).take l.length)
  | [], off, l, h, _, _ => by
    simp [fieldLeaves] at h
    subst h
    simp [Leafs]
  | f :: fs, off, l, h, hf, hl => by
    unfold fieldLeaves at h
    split at h
    · rename_i ho
      split at h
      · rename_i l1 hl1
        split at h
        · rename_i hc
          split at h
          · rename_i r hr
            simp at h
            subst h
            have h1 := hrec _ _ _ hl1 (hf f (by simp))
            rw [ho, hc] at h1
            rw [List.length_append] at hl ⊢
            have h2 := fields_at rec cs ok hrec fs (off + l1.length) r hr (fun g hg => hf g (by simp [hg])) (by omega)
            have e : (cs.drop off).take (l1.length + r.length) = (cs.drop off).take l1.length ++ (cs.drop (off + l1.length)).take r.length := by
              rw [List.take_add, List.drop_drop]
            rw [e]
            exact h1.append h2
          · cases h
        · cases h
      · cases h
    · cases h

theorem rows_at (l : List LK) (cs : List Value) : ∀ (m : Nat) (off : Nat), (∀ i, i < m → Leafs l ((cs.drop (off + i * l.length)).take l.length)) → off + m * l.length ≤ cs.length → Leafs ((List.replicate m l).flatten) ((cs.drop off).take (m * l.length))
  | 0, off, _, _ => by simp [Leafs]
  | m + 1, off, h, hl => by
    have h0 := h 0 (by omega)
    have e0 : (m + 1) * l.length = l.length + m * l.length := by rw [Nat.succ_mul, Nat.add_comm]
    have h1 := rows_at l cs m (off + l.length) (fun i hi => by
      have := h (i + 1) (by omega)
      rwa [Nat.succ_mul, show off + (i * l.length + l.length) = off + l.length + i * l.length by omega] at this) (by omega)
    rw [e0, List.take_add, List.drop_drop, List.replicate_succ, List.flatten_cons]
    simp only [Nat.zero_mul, Nat.add_zero] at h0
    exact h0.append h1

theorem leaves_at : ∀ (n fuel : Nat) (t : TypeId) (l : List LK) (cs : List Value) (x : DataW H × List MemPlace), leaves P n t = some l → DataW.trod enc P w base spare held fuel t cs = some x → Leafs l cs
  | 0, _, _, _, _, _, h, _ => by cases h
  | n + 1, fuel, t, l, cs, x, h, ht => by
    unfold leaves at h
    split at h
    · rename_i k hk
      simp at h
      subst h
      obtain ⟨m, rfl, _, hw⟩ := DataW.trod_int hk ht
      simp [Lit.wf] at hw
      exact ⟨_, _, rfl, ⟨m, rfl, hw.1, hw.2⟩, rfl⟩
    · rename_i hk
      simp at h
      subst h
      obtain ⟨m, rfl, _⟩ := DataW.trod_bool hk ht
      exact ⟨_, _, rfl, ⟨m, rfl⟩, rfl⟩
    · rename_i fs hk
      split at h
      · rename_i l' hl'
        split at h
        · rename_i hc
          simp at h
          subst h
          obtain ⟨xs, n', _, _, hcl, hxl, hat⟩ := DataW.trod_struct hk ht
          have hok := fields_at (P := P) (leaves P n) cs (fun t ds => ∃ f y, DataW.trod enc P w base spare held f t ds = some y) (fun t l ds h1 ⟨f, y, h2⟩ => leaves_at n f t l ds y h1 h2) fs.toList 0 l' hl' (fun f hf => by
            obtain ⟨i, hi⟩ := List.mem_iff_getElem?.1 hf
            have hi' : fs[i]? = some f := by simpa using hi
            have h3 := hat i f hi'
            have hil : i < xs.length := by rw [hxl]; exact (Array.getElem?_eq_some_iff.1 hi').1
            rw [List.getElem?_eq_getElem hil] at h3
            exact ⟨_, _, h3⟩) (by omega)
          rw [List.drop_zero, List.take_of_length_le (by omega)] at hok
          exact hok
        · cases h
      · cases h
    · rename_i m e hk
      split at h
      · rename_i l' hl'
        split at h
        · rename_i hc
          simp at h
          subst h
          obtain ⟨xs, n', _, _, hcl, hxl, hat⟩ := DataW.trod_array hk ht
          have hok := rows_at l' cs m 0 (fun i hi => by
            have h3 := hat i hi
            have hil : i < xs.length := by omega
            rw [List.getElem?_eq_getElem hil, hc.1] at h3
            rw [Nat.zero_add]
            exact leaves_at n n' e l' _ _ hl' h3) (by omega)
          rw [List.drop_zero, List.take_of_length_le (by omega)] at hok
          exact hok
        · cases h
      · cases h
    · cases h

/-- an argument that is a struct or an array -/
theorem open_flat {r : Reach} {b0 : Nat} {t : TypeId} {l : List LK} {v : Value} {d : DataW H} {ps : List MemPlace} (n : Nat) (hL : leaves P n t = some l) (hs : (∃ fs, P.underlying t = some (.struct fs)) ∨ ∃ m e, P.underlying t = some (.array m e))
    (hval : Value.okWide P w r b0 t v) (hd : DataW.Trod enc P w base spare held t v d ps) : ∃ vs : List Value, v = .agg vs.toArray ∧ Leafs l vs := by
  obtain ⟨fuel, hf⟩ := hd
  have h := leaves_at n fuel t l _ _ hL hf
  rcases hs with ⟨fs, ht⟩ | ⟨m, e, ht⟩
  · obtain ⟨cs, rfl, hcs⟩ := okWide_struct ht hval
    refine ⟨cs.toList, by simp, ?_⟩
    simpa [Value.cells] using h
  · simp only [Value.okWide, ht] at hval
    obtain ⟨cs, rfl, hcs, _⟩ := hval
    refine ⟨cs.toList, by simp, ?_⟩
    simpa [Value.cells] using h
end
end Go.Proofs.Ytalbaopfdejooaa.Leaf
