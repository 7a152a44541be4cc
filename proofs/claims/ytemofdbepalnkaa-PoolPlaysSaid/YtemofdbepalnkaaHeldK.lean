/- A region that draws its order, in which loads may be taken first although stores turn what they read: the stores wait for the loads. The held condition is wanted only until the first store. -/
import Derived.Test.YtemofdbepalnkaaBase
import Derived.OrdersHeld
namespace Go.Proofs.Ytemofdbepalnkaa.HeldK
open Go.RowKit
set_option linter.unusedVariables false

section
variable {P : Program} {ops : Array Oper} {Q : Exit → Act → World → Prop} {md : Region.Mode} {S T : World → Prop} {St : List Nat}

/-- none of the stores has come up -/
def fresh (St : List Nat) (listed : Array Bool) : Prop := ∀ s ∈ St, listed.getD s true = false
theorem fresh_set {listed : Array Bool} {i : Nat} (h : fresh St (listed.setIfInBounds i true)) : fresh St listed := fun s hs => by
  have := h s hs
  by_cases e : i = s
  · subst e
    by_cases hlt : i < listed.size
    · simp [hlt] at this
    · simp at this
  · rwa [getD_set_ne true e] at this

/-- Whatever order is picked from here on, and S holds behind every operation ahead of the first store. -/
def wpAnyK (P : Program) (md : Region.Mode) (ops : Array Oper) (Q : Exit → Act → World → Prop) (S : World → Prop) (St : List Nat) : Nat → Array Bool → Act → World → Prop
  | 0, listed, a, w => Region.ready md ops listed = [] ∧ Q .normal a w
  | fuel + 1, listed, a, w =>
    (Region.ready md ops listed = [] → Q .normal a w) ∧
    ∀ i ∈ Region.ready md ops listed, wpOp P ops Q i (fun a' w' => (fresh St (listed.setIfInBounds i true) → S w') ∧ wpAnyK P md ops Q S St fuel (listed.setIfInBounds i true) a' w') a w

theorem wpAny_of_K : ∀ (fuel : Nat) (listed : Array Bool) (a : Act) (w : World), wpAnyK P md ops Q S St fuel listed a w → wpAny P md ops Q fuel listed a w
  | 0, _, _, _, h => h
  | fuel + 1, _, _, _, h => ⟨h.1, fun i hi => wpOp_mono (fun a' w' h' => wpAny_of_K fuel _ a' w' h'.2) (h.2 i hi)⟩

theorem wpAnyK_first {i : Nat} {oi : Oper} {v : Value} (hi : ops[i]? = some oi) (hsel : ∀ (j : Nat) (o : Oper) cs b, ops[j]? = some o → o.op ≠ .select cs b)
    (hQ : ∀ c a w, Q (.panic c) (a.put oi.dst v) w → Q (.panic c) a w)
    (hno : ∀ s ∈ St, s ≠ i) (hmode : (∀ w, T w) ∨ ((∀ w, S w → T w) ∧ ∀ s ∈ St, ∃ os, ops[s]? = some os ∧ ∃ e ∈ os.after, Region.binds md e = true ∧ e.on = i)) :
    ∀ (fuel : Nat) (listed : Array Bool) (a : Act) (w : World),
      (∀ j oj, ops[j]? = some oj → j ≠ i → listed.getD j true = false → (∀ e ∈ oj.after, Region.binds md e = true → e.on ≠ i) → oi.apart ops oj = true) →
      i ∈ Region.ready md ops listed → YieldsIf P ops T oi v a → (fresh St listed → S w) → ((∀ w, T w) ∨ fresh St listed) →
      wpAnyK P md ops Q S St fuel (listed.setIfInBounds i true) (a.put oi.dst v) w → wpAnyK P md ops Q S St (fuel + 1) listed a w := by
  intro fuel
  induction fuel with
  | zero =>
    intro listed a w _ hr hy hS hF H
    have hT : T w := by
      rcases hmode with h | ⟨h, _⟩
      · exact h w
      · rcases hF with h' | h'
        · exact h' w
        · exact h w (hS h')
    refine ⟨fun h => (by rw [h] at hr; cases hr), fun j hj => ?_⟩
    by_cases hji : j = i
    · subst hji; exact hy.wpOp hi hT ⟨fun hf => hS (fresh_set hf), H⟩
    · have := ready_mono hj hji
      rw [H.1] at this
      cases this
  | succ fuel ih =>
    intro listed a w hfree hr hy hS hF H
    have hT : T w := by
      rcases hmode with h | ⟨h, _⟩
      · exact h w
      · rcases hF with h' | h'
        · exact h' w
        · exact h w (hS h')
    refine ⟨fun h => (by rw [h] at hr; cases hr), fun j hj => ?_⟩
    by_cases hji : j = i
    · subst hji; exact hy.wpOp hi hT ⟨fun hf => hS (fresh_set hf), H⟩
    · have h1 := H.2 j (ready_mono hj hji)
      obtain ⟨hjun, oj, hoj, hall⟩ := mem_ready.1 hj
      have hnot : ∀ e ∈ oj.after, Region.binds md e = true → e.on ≠ i := fun e he hb heq => by
        have h1 := hall e he hb
        have h0 := (mem_ready.1 hr).1
        rw [heq] at h1
        rcases Nat.lt_or_ge i listed.size with h' | h'
        · simp [h'] at h0 h1; rw [h0] at h1; cases h1
        · simp [Array.getElem?_eq_none h'] at h1
      have h2 := wpOp_putIf hoj (hfree j oj hoj hji hjun hnot) (fun cs b => hsel i oi cs b hi) (fun cs b => hsel j oj cs b hoj) hQ hy h1
      have hfree' : ∀ k ok, ops[k]? = some ok → k ≠ i → (listed.setIfInBounds j true).getD k true = false →
          (∀ e ∈ ok.after, Region.binds md e = true → e.on ≠ i) → oi.apart ops ok = true := fun k ok hk hki hun hno => by
        refine hfree k ok hk hki ?_ hno
        by_cases hjk : j = k
        · subst hjk; exact hjun
        · rw [getD_set_ne true hjk] at hun; exact hun
      have hF' : (∀ w, T w) ∨ fresh St (listed.setIfInBounds j true) := by
        rcases hmode with h | ⟨_, hwait⟩
        · exact Or.inl h
        · rcases hF with h' | h'
          · exact Or.inl h'
          · refine Or.inr fun s hs => ?_
            have hsj : j ≠ s := fun e => by
              obtain ⟨os, hos, e', he', hb', hon⟩ := hwait s hs
              rw [← e, hoj] at hos
              obtain rfl := Option.some.inj hos
              exact hnot e' he' hb' hon
            rw [getD_set_ne true hsj]
            exact h' s hs
      have hS' : ∀ w', (fresh St ((listed.setIfInBounds i true).setIfInBounds j true) → S w') → (fresh St (listed.setIfInBounds j true) → S w') := fun w' hs hf => by
        refine hs fun s hs' => ?_
        have his : i ≠ s := fun e => hno s hs' e.symm
        rw [Array.setIfInBounds_comm _ _ (Ne.symm hji), getD_set_ne true his]
        exact hf s hs'
      refine wpOp_mono (fun a' w' h3 => ⟨hS' w' h3.2.1, ih (listed.setIfInBounds j true) a' w' hfree' (ready_mono hr (Ne.symm hji)) h3.1 (hS' w' h3.2.1) hF' ?_⟩) h2
      rw [Array.setIfInBounds_comm _ _ hji]
      exact h3.2.2

/-- the stores wait for it -/
def waits (md : Region.Mode) (ops : Array Oper) (St : List Nat) (i : Nat) : Bool := St.all fun s => match ops[s]? with
  | some o => o.after.any fun e => Region.binds md e && e.on == i
  | none => false
theorem waits_spec {i : Nat} (h : waits md ops St i = true) : ∀ s ∈ St, ∃ os, ops[s]? = some os ∧ ∃ e ∈ os.after, Region.binds md e = true ∧ e.on = i := fun s hs => by
  have h1 := List.all_eq_true.1 h s hs
  cases ho : ops[s]? with
  | none => simp [ho] at h1
  | some o =>
    simp only [ho, Array.any_eq_true] at h1
    obtain ⟨k, hk, h2⟩ := h1
    simp only [Bool.and_eq_true, beq_iff_eq] at h2
    exact ⟨o, rfl, _, Array.getElem_mem hk, h2.1, h2.2⟩
def none_of (St : List Nat) (i : Nat) : Bool := St.all fun s => s != i
theorem none_spec {i : Nat} (h : none_of St i = true) : ∀ s ∈ St, s ≠ i := fun s hs => by
  have := List.all_eq_true.1 h s hs
  simpa using this
def freshB (St : List Nat) (listed : Array Bool) : Bool := St.all fun s => listed.getD s true == false
theorem fresh_spec {listed : Array Bool} (h : freshB St listed = true) : fresh St listed := fun s hs => by
  have := List.all_eq_true.1 h s hs
  simpa using this

/-- take a load first -/
theorem wpAnyK_take {i : Nat} {oi : Oper} {v : Value} {fuel : Nat} {listed : Array Bool} {a : Act} {w : World} (hi : ops[i]? = some oi)
    (hs : Region.noSelect ops = true) (hf : Region.free md ops listed i = true) (hr : (Region.ready md ops listed).contains i = true) (hn : none_of St i = true) (hw : waits md ops St i = true) (hfr : freshB St listed = true)
    (hQ : ∀ c a w, Q (.panic c) (a.put oi.dst v) w → Q (.panic c) a w) (hy : YieldsIf P ops S oi v a) (hS : S w)
    (h : wpAnyK P md ops Q S St fuel (listed.setIfInBounds i true) (a.put oi.dst v) w) : wpAnyK P md ops Q S St (fuel + 1) listed a w :=
  wpAnyK_first hi (Region.noSelect_spec hs) hQ (none_spec hn) (Or.inr ⟨fun _ h => h, waits_spec hw⟩) fuel listed a w (Region.free_spec hi hf) (by simpa using hr) hy (fun _ => hS) (Or.inr (fresh_spec hfr)) h
/-- take what yields in whatever world -/
theorem wpAnyK_any {i : Nat} {oi : Oper} {v : Value} {fuel : Nat} {listed : Array Bool} {a : Act} {w : World} (hi : ops[i]? = some oi)
    (hs : Region.noSelect ops = true) (hf : Region.free md ops listed i = true) (hr : (Region.ready md ops listed).contains i = true) (hn : none_of St i = true)
    (hQ : ∀ c a w, Q (.panic c) (a.put oi.dst v) w → Q (.panic c) a w) (hy : YieldsIf P ops (fun _ => True) oi v a) (hS : fresh St listed → S w)
    (h : wpAnyK P md ops Q S St fuel (listed.setIfInBounds i true) (a.put oi.dst v) w) : wpAnyK P md ops Q S St (fuel + 1) listed a w :=
  wpAnyK_first hi (Region.noSelect_spec hs) hQ (none_spec hn) (Or.inl fun _ => trivial) fuel listed a w (Region.free_spec hi hf) (by simpa using hr) hy hS (Or.inl fun _ => trivial) h
theorem wpAnyK_all {rs : List Nat} {fuel : Nat} {listed : Array Bool} {a : Act} {w : World} (hr : Region.ready md ops listed = rs) (hne : rs ≠ [])
    (h : ∀ i ∈ rs, wpOp P ops Q i (fun a' w' => (fresh St (listed.setIfInBounds i true) → S w') ∧ wpAnyK P md ops Q S St fuel (listed.setIfInBounds i true) a' w') a w) : wpAnyK P md ops Q S St (fuel + 1) listed a w :=
  ⟨fun h0 => absurd (hr ▸ h0) hne, hr ▸ h⟩
theorem wpAnyK_done {listed : Array Bool} {a : Act} {w : World} (hr : Region.ready md ops listed = []) (h : Q .normal a w) :
    ∀ fuel, wpAnyK P md ops Q S St fuel listed a w
  | 0 => ⟨hr, h⟩
  | _ + 1 => ⟨fun _ => h, by rw [hr]; simp⟩
theorem wp_region_K {id : Nat} {a : Act} {w : World} (hm : P.follows .mixedOrders = true)
    (h : wpAnyK P .any ops Q S St ops.size (Array.replicate ops.size false) a { w with drawn := w.drawn + 1 }) : (Code.region id ops true).wp P Q a w :=
  wp_region_any hm (wpAny_of_K _ _ _ _ h)
/-- a store has come up: nothing is held any more -/
theorem unfresh {listed : Array Bool} {i : Nat} (hi : i ∈ St) (hl : i < listed.size) : ¬ fresh St (listed.setIfInBounds i true) := fun h => by
  have := h i hi
  simp [hl] at this
end
end Go.Proofs.Ytemofdbepalnkaa.HeldK
