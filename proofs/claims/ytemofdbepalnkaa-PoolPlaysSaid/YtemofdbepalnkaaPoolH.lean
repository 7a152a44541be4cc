/- Chapter 6: the reference's pool in memory; N, Has, Set, Give. -/
import Derived.Test.YtemofdbepalnkaaSlices
import Derived.Test.YtemofdbepalnkaaQuiet
import Derived.Test.YtemofdbepalnkaaChecked
import Derived.RegionTactic
import Derived.BigRegion
namespace Go.Proofs.Ytemofdbepalnkaa.PoolH
open Go.RowKit Base Slices Quiet
set_option linter.unusedVariables false
set_option linter.unusedSimpArgs false

def EI : El Int := { ty := 3, sl := 36, size := 1, bytes := 8, cells := fun n => [.int .i64 n] }
theorem info_int : (Try.prog.info? 3).map (fun i => (i.zero, i.size, i.bytes)) = some (some (.int .i64 0), 1, 8) := by kernel_rfl
theorem EI_ok : EI.Ok Try.prog := by
  obtain ⟨i0, hi, hz0, hz1, hz2⟩ := info_parts info_int
  exact ⟨Try.underlying36, ⟨i0, _, hi, hz0, hz1, hz2, rfl⟩, by decide, by decide, fun _ => rfl, fun a u hu => by simp [EI] at hu; subst hu; rfl⟩
def EB : El Bool := { ty := 4, sl := 37, size := 1, bytes := 1, cells := fun n => [.bool n] }
theorem info_bool : (Try.prog.info? 4).map (fun i => (i.zero, i.size, i.bytes)) = some (some (.bool false), 1, 1) := by kernel_rfl
theorem EB_ok : EB.Ok Try.prog := by
  obtain ⟨i0, hi, hz0, hz1, hz2⟩ := info_parts info_bool
  exact ⟨Try.underlying37, ⟨i0, _, hi, hz0, hz1, hz2, rfl⟩, by decide, by decide, fun _ => rfl, fun a u hu => by simp [EB] at hu; subst hu; rfl⟩

section
variable {α : Type} {P : Program} {E : El α} {f : α → Value}
/-- one element of a row of one-cell elements -/
theorem own_at (hE : E.Ok P) (h1 : E.size = 1) (hf : ∀ a, E.cells a = [f a]) {w : World} {v : Value} {l : List α} (h : Own E w 0 v l) {k : Nat} {a : α} (hk : l[k]? = some a) :
    ∃ b c, v = .slice (some ⟨b, 0, none⟩) l.length c ∧ l.length ≤ c ∧ b < w.heap.size ∧ k < l.length ∧ w.cell? ⟨b, k, none⟩ = some (f a) ∧ w.frozen? ⟨b, k, none⟩ = false := by
  have hkl := (List.getElem?_eq_some_iff.1 hk).1
  rcases h.shape with ⟨rfl, rfl⟩ | ⟨b, c, rfl, hc, _, _, hb⟩
  · simp at hk
  · refine ⟨b, c, rfl, hc, hb, hkl, ?_, h.frozen k⟩
    have hfl := flat_at hE l k a hk 0 (f a) (by rw [hf]; rfl)
    rw [h1] at hfl
    have hj : k < l.length * E.size := by rw [h1]; omega
    rw [World.ownsRow.cellAt h k hj]
    rw [Nat.mul_one, Nat.add_zero] at hfl
    exact hfl
theorem flat_put (hf : ∀ a, E.cells a = [f a]) (x : α) : ∀ (l : List α) (k : Nat), flat E (l.set k x) = (flat E l).set k (f x)
  | [], k => by simp [flat]
  | a :: l, 0 => by unfold flat; simp [hf]
  | a :: l, k + 1 => by
    have := flat_put hf x l k
    unfold flat at this ⊢
    rw [List.set_cons_succ, List.flatMap_cons, List.flatMap_cons, this, hf]
    rfl
theorem own_put (hf : ∀ a, E.cells a = [f a]) {w : World} {b c : Nat} {l : List α} (h : Own E w 0 (.slice (some ⟨b, 0, none⟩) l.length c) l) (k : Nat) (x : α) :
    Own E (w.setCell ⟨b, k, none⟩ (f x)) 0 (.slice (some ⟨b, 0, none⟩) l.length c) (l.set k x) := by
  have h1 := (World.ownsRow.stored h k (f x)).1
  unfold Own
  rw [flat_put hf, List.length_set]
  exact h1
end

/-- The reference's pool: its block, the three slices in it and what they hold, how many may be. -/
def RP (w : World) (x : Nat) (vv tv gv : Value) (V : List Int) (T : List Bool) (G : List Int) (most : Nat) : Prop :=
  Bk w x 39 #[vv, tv, gv, .int .i64 most] ∧ Own EI w 0 vv V ∧ Own EB w 0 tv T ∧ Sl EI w gv G ∧ ∀ k, gv.ownBlock = some k → k ≠ x ∧ vv.ownBlock ≠ some k ∧ tv.ownBlock ≠ some k
/-- its blocks -/
def RF (x : Nat) (vv tv gv : Value) : Nat → Prop := fun k => k = x ∨ vv.ownBlock = some k ∨ tv.ownBlock = some k ∨ gv.ownBlock = some k
/-- it behind a call -/
def RH (w : World) (x : Nat) (vv tv gv : Value) (V : List Int) (T : List Bool) (G : List Int) (most : Nat) (w' : World) : Prop :=
  ∃ vv' tv' gv', RP w' x vv' tv' gv' V T G most ∧ ∀ k, RF x vv' tv' gv' k → RF x vv tv gv k ∨ w.heap.size ≤ k

section
variable {w w' : World} {x : Nat} {vv tv gv : Value} {V : List Int} {T : List Bool} {G : List Int} {most : Nat}
theorem RP.fr {S : Nat → Prop} (h : RP w x vv tv gv V T G most) (hf : Fr S w w') (hs : ∀ k, RF x vv tv gv k → ¬ S k) : RP w' x vv tv gv V T G most :=
  ⟨h.1.fr hf (hs x (Or.inl rfl)), h.2.1.fr hf fun k hk => hs k (Or.inr (Or.inl hk)), h.2.2.1.fr hf fun k hk => hs k (Or.inr (Or.inr (Or.inl hk))), h.2.2.2.1.frS hf fun k hk => hs k (Or.inr (Or.inr (Or.inr hk))), h.2.2.2.2⟩
theorem RP.nil (h : RP w x vv tv gv V T G most) (hf : Fr Nil w w') : RP w' x vv tv gv V T G most := h.fr hf fun _ _ s => s
theorem sl_lt {E : El Int} {v : Value} {l : List Int} (h : Sl E w v l) {k : Nat} (hk : v.ownBlock = some k) : k < w.heap.size := by
  rcases h with ⟨rfl, _⟩ | ⟨g, o, cap, rfl, _, hg, _⟩
  · cases hk
  · simp [Value.ownBlock] at hk
    omega
theorem RP.lt (h : RP w x vv tv gv V T G most) : ∀ k, RF x vv tv gv k → k < w.heap.size := by
  rintro k (rfl | hk | hk | hk)
  · exact h.1.lt
  · exact (h.2.1.lt k hk).2
  · exact (h.2.2.1.lt k hk).2
  · exact sl_lt h.2.2.2.1 hk
theorem own_ne {α : Type} {E : El α} {v : Value} {l : List α} {t : TypeId} {cs : Array Value} (h : Own E w 0 v l) (hb : Bk w x t cs) (hne : E.ty ≠ t) {k : Nat} (hk : v.ownBlock = some k) : k ≠ x := by
  rcases h.2 with ⟨rfl, _⟩ | ⟨g', cap, cur, rfl, _, hg, hr⟩
  · cases hk
  · simp [Value.ownBlock] at hk
    subst hk
    exact Bk.apart (t := E.ty) (t' := t) hg hb hne
theorem RP.vx (h : RP w x vv tv gv V T G most) {k : Nat} (hk : vv.ownBlock = some k) : k ≠ x := own_ne h.2.1 h.1 (by decide) hk
theorem RP.tx (h : RP w x vv tv gv V T G most) {k : Nat} (hk : tv.ownBlock = some k) : k ≠ x := own_ne h.2.2.1 h.1 (by decide) hk
theorem RP.vt (h : RP w x vv tv gv V T G most) {k : Nat} (hk : vv.ownBlock = some k) : tv.ownBlock ≠ some k := fun ht => by
  rcases h.2.2.1.2 with ⟨rfl, _⟩ | ⟨g', cap, cur, rfl, _, hg, hr⟩
  · cases ht
  · simp [Value.ownBlock] at ht
    subst ht
    exact own_ne (t := EB.ty) h.2.1 hg (by decide) hk rfl
end

/-- how many are taken -/
def nt (T : List Bool) : Nat := T.count true
theorem nt_le (T : List Bool) : nt T ≤ T.length := List.count_le_length
theorem nt_step {T : List Bool} {k : Nat} {b : Bool} (h : T[k]? = some b) : nt (T.take (k + 1)) = nt (T.take k) + (if b = true then 1 else 0) := by
  obtain ⟨hk, rfl⟩ := List.getElem?_eq_some_iff.1 h
  unfold nt
  rw [List.take_succ_eq_append_getElem hk, List.count_append]
  cases T[k] <;> simp

section
variable (w : World)
set_option maxRecDepth 100000 in
set_option maxHeartbeats 4000000 in
theorem N_any {x : Nat} {vv tv gv : Value} {V : List Int} {T : List Bool} {G : List Int} {most : Nat} (h : RP w x vv tv gv V T G most) (hl : T.length ≤ 1000) :
    Calls Try.prog 12 #[.pointer (some ⟨x, 0, none⟩)] w fun e w' => e = .returned (.int .i64 (nt T : Nat)) ∧ Fr Nil w w' := by
  obtain ⟨c0, c1, c2, c3, _, _, _, _⟩ := h.1.c4
  have HT := Lib.hid h.2.2.1
  obtain ⟨A, c, rfl⟩ := (h.2.2.1.sl EB_ok).shape
  have hl' : (T.length : Int) ≤ 1000 := by omega
  clear h
  go_enter Try.func12, Try.ntmps12
  go_wp2_with fail
  go_loopw [3, 4] (fun n i wr => wr = w ∧ ∃ (k : Nat), k ≤ T.length ∧ i = .int .i64 k ∧ n = .int .i64 (nt (T.take k) : Nat)) (fun _ i _ => T.length - (intOf i).toNat)
  case atStart => exact ⟨rfl, 0, by omega, rfl, rfl⟩
  case round =>
    obtain ⟨rfl, k, hk, rfl, rfl⟩ := hrel
    have hnk : nt (T.take k) ≤ 1000 := by have := nt_le (T.take k); rw [List.length_take] at this; omega
    by_cases hlt : k < T.length
    · obtain ⟨b, hb⟩ : ∃ b, T[k]? = some b := ⟨T[k], List.getElem?_eq_getElem hlt⟩
      obtain ⟨g, c', hv, hc, hg, _, d0, _⟩ := own_at (f := fun b => .bool b) EB_ok rfl (fun _ => rfl) HT.out hb
      simp only [Value.slice.injEq, true_and] at hv
      obtain ⟨rfl, rfl⟩ := hv
      have HS := Lib.hid (nt_step hb)
      have hn1 : ((nt (T.take k) : Nat) : Int) ≤ 1000 := by omega
      have hn0 : (0 : Int) ≤ ((nt (T.take k) : Nat) : Int) := by omega
      generalize nt (T.take k) = m at *
      clear hb
      rcases b with _ | _
      · go_wp2_with fail
        go_roundw
        case rel => exact ⟨trivial, k + 1, by omega, by go_num, by rw [HS.out]; simp⟩
        case measure => simp [intOf]; omega
      · go_wp2_with fail
        go_roundw
        case rel => exact ⟨trivial, k + 1, by omega, by go_num, by rw [HS.out]; simp⟩
        case measure => simp [intOf]; omega
    · obtain rfl : k = T.length := by omega
      rw [List.take_length]
      generalize hm : nt T = m
      have HM := Lib.hid hm
      clear hm
      go_wp2_with fail
      go_ret
      exact ⟨by rw [HM.out]; rfl, Fr.refl _ _⟩

set_option maxHeartbeats 2000000 in
theorem Has_yes {x k : Nat} {vv tv gv : Value} {V : List Int} {T : List Bool} {G : List Int} {most : Nat} (h : RP w x vv tv gv V T G most) (hl : T.length ≤ 1000) (hk : T[k]? = some true) :
    Calls Try.prog 16 #[.pointer (some ⟨x, 0, none⟩), .int .i64 ((k : Int) + 1)] w fun e w' => e = .returned (.bool true) ∧ Fr Nil w w' := by
  obtain ⟨c0, c1, c2, c3, _, _, _, _⟩ := h.1.c4
  obtain ⟨g, c, rfl, hc, hg, hkl, d0, _⟩ := own_at (f := fun b => .bool b) EB_ok rfl (fun _ => rfl) h.2.2.1 hk
  have k1 : (1 : Int) ≤ (k : Int) + 1 := by omega
  have k2 : (k : Int) + 1 ≤ T.length := by omega
  have k3 : (k : Int) < T.length := by omega
  have k4 : (k : Int) ≤ 1000 := by omega
  have k5 : (0 : Int) ≤ k := by omega
  clear h hk
  go_enter Try.func16, Try.ntmps16
  go_wp2_with fail
  exact bodyPost_ret (v := .bool true) (by simp [results, Try.results16, go_sem]) rfl ⟨rfl, by (repeat' (with_reducible first | refine Fr.setCell ?_ (fun hlt => absurd hlt (by dsimp only; omega)) _ | refine Fr.alloc ?_ _ | refine Fr.drewN ?_ _ | refine Fr.drew ?_ | exact Fr.refl _ _))⟩
set_option maxHeartbeats 2000000 in
theorem Has_no {x : Nat} {vv tv gv : Value} {V : List Int} {T : List Bool} {G : List Int} {most : Nat} {i : Int} (h : RP w x vv tv gv V T G most) (hl : T.length ≤ 1000) (hi : ∀ k : Nat, i = (k : Int) + 1 → T[k]? ≠ some true) :
    Calls Try.prog 16 #[.pointer (some ⟨x, 0, none⟩), .int .i64 i] w fun e w' => e = .returned (.bool false) ∧ Fr Nil w w' := by
  obtain ⟨c0, c1, c2, c3, _, _, _, _⟩ := h.1.c4
  have HT := Lib.hid h.2.2.1
  obtain ⟨A, c, rfl⟩ := (h.2.2.1.sl EB_ok).shape
  clear h
  by_cases h1 : i < 1
  · clear hi
    have h1' : ¬ (1 : Int) ≤ i := by omega
    go_enter Try.func16, Try.ntmps16
    go_wp2_with fail
    exact bodyPost_ret (v := .bool false) (by simp [results, Try.results16, go_sem]) rfl ⟨rfl, by (repeat' (with_reducible first | refine Fr.setCell ?_ (fun hlt => absurd hlt (by dsimp only; omega)) _ | refine Fr.alloc ?_ _ | refine Fr.drewN ?_ _ | refine Fr.drew ?_ | exact Fr.refl _ _))⟩
  · have h1' : (1 : Int) ≤ i := by omega
    by_cases h2 : (T.length : Int) < i
    · clear hi
      have h2' : ¬ i ≤ (T.length : Int) := by omega
      go_enter Try.func16, Try.ntmps16
      go_wp2_with fail
      exact bodyPost_ret (v := .bool false) (by simp [results, Try.results16, go_sem]) rfl ⟨rfl, by (repeat' (with_reducible first | refine Fr.setCell ?_ (fun hlt => absurd hlt (by dsimp only; omega)) _ | refine Fr.alloc ?_ _ | refine Fr.drewN ?_ _ | refine Fr.drew ?_ | exact Fr.refl _ _))⟩
    · obtain ⟨k, rfl⟩ : ∃ k : Nat, i = (k : Int) + 1 := ⟨(i - 1).toNat, by omega⟩
      obtain ⟨b, hb⟩ : ∃ b, T[k]? = some b := ⟨T[k]'(by omega), List.getElem?_eq_getElem _⟩
      obtain rfl : b = false := by
        have := hi k rfl
        rw [hb] at this
        cases b with
        | true => exact absurd rfl this
        | false => rfl
      obtain ⟨g, c', hv, hc, hg, hkl, d0, _⟩ := own_at (f := fun b => .bool b) EB_ok rfl (fun _ => rfl) HT.out hb
      simp only [Value.slice.injEq, true_and] at hv
      obtain ⟨rfl, rfl⟩ := hv
      have k2 : (k : Int) + 1 ≤ T.length := by omega
      have k3 : (k : Int) < T.length := by omega
      have k4 : (k : Int) ≤ 1000 := by omega
      have k5 : (0 : Int) ≤ k := by omega
      clear hi hb h1 h2
      go_enter Try.func16, Try.ntmps16
      go_wp2_with fail
      exact bodyPost_ret (v := .bool false) (by simp [results, Try.results16, go_sem]) rfl ⟨rfl, by (repeat' (with_reducible first | refine Fr.setCell ?_ (fun hlt => absurd hlt (by dsimp only; omega)) _ | refine Fr.alloc ?_ _ | refine Fr.drewN ?_ _ | refine Fr.drew ?_ | exact Fr.refl _ _))⟩
end
end Go.Proofs.Ytemofdbepalnkaa.PoolH
