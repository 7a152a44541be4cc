/- A deferred closure's region that begins with the builtin recover: the rest of it goes by the plain walk. -/
import Derived.WalkKit
import Derived.Recover
import Derived.Orders
namespace Go.Proofs.Ytemofdbepalnkaa.Recov

section
variable {P : Program} {Q : Exit → Act → List Frame → World → Prop} {ops : Array Oper}

theorem opsS_of_ops (cs : List Frame) (hno : ∀ a w, ¬ Q .outgrown a cs w) : ∀ (l : List Nat) (a : Act) (w : World),
    wpOps P ops (fun e a w => Q e a cs w) l a w → wpOpsS P ops Q l a cs w := by
  intro l
  induction l with
  | nil => intro a w h; exact h
  | cons i rest ih =>
    intro a w h
    simp only [wpOps, wpOpsS] at h ⊢
    cases ho : ops[i]? with
    | none => simp only [ho] at h ⊢; exact ih _ _ h
    | some o =>
      simp only [ho] at h ⊢
      split at h
      · rename_i hw
        rw [if_pos hw]
        rcases h with h | ⟨_, a', w', hq⟩
        · have h' := Oper.wp_mono (K' := fun a' w' => wpOpsS P ops Q rest a' cs w') (fun a' w' => ih a' w') h
          unfold Oper.wp at h'
          split
          · rename_i hr; rw [hr] at h'; exact h'.elim
          · exact h'
        · exact (hno _ _ hq).elim
      · rename_i hw
        rw [if_neg hw]
        exact ih _ _ h

theorem region_recover {id : Nat} {a : Act} {cs cs' : List Frame} {w : World} {o : Oper} {rest : List Oper} (hg : o.guard = none)
    (hr : (execOp a.eval o).run P w = .ok .recover w) (v : Value) (hc : (match recoverD cs with | some (v, cs') => (v, cs') | none => (.nilIface, cs)) = (v, cs'))
    (hno : ∀ a w, ¬ Q .outgrown a cs' w)
    (h : wpList P (o :: rest).toArray (fun e a w => Q e a cs' w) rest (a.put o.dst v) w) : (Code.region id (o :: rest).toArray false).wpS P Q a cs w := by
  apply wpS_region
  have hl : List.range (o :: rest).toArray.size = 0 :: List.range' 1 rest.length := by
    rw [List.size_toArray, List.length_cons, List.range_eq_range', List.range'_succ]
  rw [hl]
  rw [← wpOps_eq_wpList (ops := (o :: rest).toArray) rest 1 (fun j => by simp [Nat.add_comm 1 j])] at h
  have h' := opsS_of_ops cs' hno _ _ _ h
  unfold wpOpsS
  simp only [List.getElem?_toArray, List.getElem?_cons_zero, hr, Region.wanted, hg, if_true]
  split at hc <;> rename_i hd <;> simp only [Prod.mk.injEq] at hc <;> obtain ⟨rfl, rfl⟩ := hc <;> rw [hd] <;> exact h'
end
end Go.Proofs.Ytemofdbepalnkaa.Recov
