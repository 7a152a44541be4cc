/- Chapter 6: what a pool and the reference's have in common; each act keeps it. -/
import Derived.Test.YtemofdbepalnkaaPoolL
import Derived.Test.YtemofdbepalnkaaPoolE
namespace Go.Proofs.Ytemofdbepalnkaa.PoolM
open Go.RowKit Base Slices Quiet PoolA PoolB PoolC PoolD PoolE PoolG PoolH PoolI PoolJ PoolK PoolL
set_option linter.unusedVariables false
set_option linter.unusedSimpArgs false

def marks (l : List Slot) : List Bool := l.map (·.2.2)
def given (gs : List Nat) : List Int := gs.map fun (k : Nat) => (k : Int) + 1
theorem marks_len (l : List Slot) : (marks l).length = l.length := by simp [marks]
theorem marks_at {l : List Slot} {k : Nat} {p : Slot} (h : l[k]? = some p) : (marks l)[k]? = some p.2.2 := by simp [marks, h]
theorem marks_set (l : List Slot) (k : Nat) (q : Slot) : marks (l.set k q) = (marks l).set k q.2.2 := by simp [marks, List.map_set]
theorem marks_yes {l : List Slot} {k : Nat} (h : (marks l)[k]? = some true) : ∃ p, l[k]? = some p ∧ p.2.2 = true := by
  simp only [marks, List.getElem?_map, Option.map_eq_some_iff] at h
  exact h

theorem nt_set : ∀ (T : List Bool) (k : Nat) (b b' : Bool), T[k]? = some b → nt (T.set k b') + (if b = true then 1 else 0) = nt T + (if b' = true then 1 else 0)
  | [], k, b, b', h => by simp at h
  | a :: T, 0, b, b', h => by
    simp at h
    subst h
    unfold nt
    cases a <;> cases b' <;> simp
  | a :: T, k + 1, b, b', h => by
    have ih := nt_set T k b b' (by simpa using h)
    unfold nt at ih ⊢
    rw [List.set_cons_succ, List.count_cons, List.count_cons]
    omega
theorem nt_snoc (T : List Bool) (b : Bool) : nt (T ++ [b]) = nt T + (if b = true then 1 else 0) := by
  unfold nt
  rw [List.count_append]
  cases b <;> simp
theorem nt_lt {T : List Bool} {k : Nat} (h : T[k]? = some false) : nt T < T.length := by
  have h1 := nt_set T k false true h
  have h2 := nt_le (T.set k true)
  rw [List.length_set] at h2
  simp at h1
  omega
theorem nt_all : ∀ {T : List Bool}, (∀ (k : Nat) b, T[k]? = some b → b = true) → nt T = T.length
  | [], _ => rfl
  | a :: T, h => by
    have h0 := h 0 a rfl
    have ih := nt_all (T := T) fun k b hb => h (k + 1) b (by simpa using hb)
    subst h0
    unfold nt at ih ⊢
    simp [ih]

/-- what holds between the two -/
structure Inv (l : List Slot) (gs : List Nat) (V : List Int) (most : Nat) : Prop where
  len : V.length = l.length
  le : l.length ≤ most
  ch : Chain l gs
  all : ∀ (k : Nat) p, l[k]? = some p → p.2.2 = false → k ∈ gs
  val : ∀ (k : Nat) p, l[k]? = some p → p.2.2 = true → V[k]? = some p.1

theorem Inv.start (most : Nat) : Inv [] [] [] most := ⟨rfl, Nat.zero_le _, trivial, fun k p h => by simp at h, fun k p h => by simp at h⟩

section
variable {l : List Slot} {gs : List Nat} {V : List Int} {most k : Nat} {p : Slot}
theorem Inv.give (h : Inv l gs V most) (hp : l[k]? = some p) (ht : p.2.2 = true) : Inv (l.set k (0, enc gs, false)) (k :: gs) V most := by
  have hk := (List.getElem?_eq_some_iff.1 hp).1
  have ho := Chain.out hp ht h.ch
  refine ⟨by rw [List.length_set]; exact h.len, by rw [List.length_set]; exact h.le, ⟨⟨(0, enc gs, false), by simp [hk], rfl, rfl⟩, ho, Chain.set h.ch ho⟩, fun j q hj hq => ?_, fun j q hj hq => ?_⟩
  · by_cases e : j = k
    · subst e; exact List.mem_cons_self
    · rw [List.getElem?_set_ne (fun x => e x.symm)] at hj
      exact List.mem_cons_of_mem _ (h.all j q hj hq)
  · by_cases e : j = k
    · subst e
      simp [hk] at hj
      subst hj
      cases hq
    · rw [List.getElem?_set_ne (fun x => e x.symm)] at hj
      exact h.val j q hj hq
theorem Inv.put (h : Inv l gs V most) (hp : l[k]? = some p) (ht : p.2.2 = true) (y : Int) : Inv (l.set k (y, p.2)) gs (V.set k y) most := by
  have hk := (List.getElem?_eq_some_iff.1 hp).1
  have ho := Chain.out hp ht h.ch
  have hkV : k < V.length := by rw [h.len]; exact hk
  refine ⟨by rw [List.length_set, List.length_set]; exact h.len, by rw [List.length_set]; exact h.le, Chain.set h.ch ho, fun j q hj hq => ?_, fun j q hj hq => ?_⟩
  · by_cases e : j = k
    · subst e
      simp [hk] at hj
      subst hj
      dsimp only at hq
      rw [ht] at hq
      cases hq
    · rw [List.getElem?_set_ne (fun x => e x.symm)] at hj
      exact h.all j q hj hq
  · by_cases e : j = k
    · subst e
      simp [hk] at hj
      subst hj
      simp [hkV]
    · rw [List.getElem?_set_ne (fun x => e x.symm)] at hj ⊢
      exact h.val j q hj hq
theorem Inv.reuse (h : Inv l (k :: gs) V most) (hp : l[k]? = some p) (y : Int) : Inv (l.set k (y, 0, true)) gs (V.set k y) most := by
  obtain ⟨_, ho, hc⟩ := h.ch
  have hk := (List.getElem?_eq_some_iff.1 hp).1
  have hkV : k < V.length := by rw [h.len]; exact hk
  refine ⟨by rw [List.length_set, List.length_set]; exact h.len, by rw [List.length_set]; exact h.le, Chain.set hc ho, fun j q hj hq => ?_, fun j q hj hq => ?_⟩
  · by_cases e : j = k
    · subst e
      simp [hk] at hj
      subst hj
      cases hq
    · rw [List.getElem?_set_ne (fun x => e x.symm)] at hj
      rcases List.mem_cons.1 (h.all j q hj hq) with h1 | h1
      · exact absurd h1 e
      · exact h1
  · by_cases e : j = k
    · subst e
      simp [hk] at hj
      subst hj
      simp [hkV]
    · rw [List.getElem?_set_ne (fun x => e x.symm)] at hj ⊢
      exact h.val j q hj hq
theorem Inv.more (h : Inv l [] V most) (hm : l.length < most) (y : Int) : Inv (l ++ [(y, 0, true)]) [] (V ++ [y]) most := by
  refine ⟨by simp [h.len], by simp; omega, trivial, fun j q hj hq => ?_, fun j q hj hq => ?_⟩
  · rcases Nat.lt_trichotomy j l.length with e | e | e
    · rw [List.getElem?_append_left e] at hj
      exact h.all j q hj hq
    · subst e
      simp at hj
      subst hj
      cases hq
    · rw [List.getElem?_eq_none (by simp; omega)] at hj
      cases hj
  · rcases Nat.lt_trichotomy j l.length with e | e | e
    · rw [List.getElem?_append_left e] at hj
      rw [List.getElem?_append_left (by rw [h.len]; exact e)]
      exact h.val j q hj hq
    · subst e
      simp at hj
      subst hj
      rw [← h.len]
      simp
    · rw [List.getElem?_eq_none (by simp; omega)] at hj
      cases hj
/-- a pool without room has each node taken -/
theorem Inv.full (h : Inv l [] V most) (hm : most ≤ l.length) : most ≤ nt (marks l) := by
  rw [nt_all (T := marks l) fun k b hb => ?_, marks_len]
  · exact hm
  · obtain ⟨p, hp, rfl⟩ : ∃ p, l[k]? = some p ∧ p.2.2 = b := by
      simp only [marks, List.getElem?_map, Option.map_eq_some_iff] at hb
      exact hb
    cases hz : p.2.2 with
    | true => rfl
    | false => exact absurd (h.all k p hp hz) (by simp)
end

theorem Held.same {w w' : World} {g : Nat} {v : Value} {l : List Slot} {free n : Int} {most : Nat} (h : Pl w g v l free n most) (hf : Fr Nil w w') : Held w g v l free n most w' := ⟨v, h.nil hf, fun k hk => Or.inl hk⟩
theorem RH.same {w w' : World} {x : Nat} {vv tv gv : Value} {V : List Int} {T : List Bool} {G : List Int} {most : Nat} (h : RP w x vv tv gv V T G most) (hf : Fr Nil w w') : RH w x vv tv gv V T G most w' := ⟨vv, tv, gv, h.nil hf, fun k hk => Or.inl hk⟩

section
variable {l : List Slot} {gs : List Nat} {V : List Int} {most g x m : Nat}
/-- which numbers are none of a node that is taken, on both sides -/
theorem not_there {i : Int} (h : ∀ (k : Nat) (p : Slot), i = (k : Int) + 1 → l[k]? = some p → p.2.2 = false) : ∀ k : Nat, i = (k : Int) + 1 → (marks l)[k]? ≠ some true := fun k hk hm => by
  obtain ⟨p, hp, ht⟩ := marks_yes hm
  rw [h k p hk hp] at ht
  cases ht
theorem there_or (l : List Slot) (i : Int) : (∃ k p, i = ((k : Nat) : Int) + 1 ∧ l[k]? = some p ∧ p.2.2 = true) ∨ ∀ (k : Nat) (p : Slot), i = (k : Int) + 1 → l[k]? = some p → p.2.2 = false := by
  by_cases h : ∃ k p, i = ((k : Nat) : Int) + 1 ∧ l[k]? = some p ∧ p.2.2 = true
  · exact Or.inl h
  · refine Or.inr fun k p hk hp => ?_
    cases hz : p.2.2 with
    | false => rfl
    | true => exact absurd ⟨k, p, hk, hp, hz⟩ h

theorem give_step (hI : Inv l gs V most) (hl : l.length ≤ 1000) (hg : gs.length ≤ 1000) (i : Int) : ∃ (c : Int) (l' : List Slot) (gs' : List Nat),
    (∀ W v, Pl W g v l (enc gs) (nt (marks l) : Nat) most → Calls Try.prog 7 #[.pointer (some ⟨g, 0, none⟩), .int .i64 i] W fun e w' => e = .returned (.int .i64 c) ∧ Fr (Foot g v) W w' ∧ Held W g v l' (enc gs') (nt (marks l') : Nat) most w') ∧
    (∀ W vv tv gv, RP W x vv tv gv V (marks l) (given gs) most → Calls Try.prog 26 #[.pointer (some ⟨x, 0, none⟩), .int .i64 i] W fun e w' => e = .returned (.int .i64 c) ∧ Fr (RF x vv tv gv) W w' ∧ RH W x vv tv gv V (marks l') (given gs') most w') ∧
    Inv l' gs' V most ∧ l'.length ≤ l.length + 1 ∧ gs'.length ≤ gs.length + 1 := by
  have hnl := nt_le (marks l)
  rw [marks_len] at hnl
  rcases there_or l i with ⟨k, p, rfl, hp, ht⟩ | hno
  · refine ⟨0, l.set k (0, enc gs, false), k :: gs, fun W v hP => ?_, fun W vv tv gv hR => ?_, hI.give hp ht, by simp, by simp⟩
    · have h1 := nt_set (marks l) k true false (by rw [marks_at hp, ht])
      have h2 : ((nt (marks (l.set k (0, enc gs, false))) : Nat) : Int) = (nt (marks l) : Nat) - 1 := by
        have e := marks_set l k (0, enc gs, false)
        dsimp only at e
        rw [e]
        simp at h1
        omega
      rw [h2]
      exact Give_ok W hP hp ht (by omega) (by omega)
    · rw [marks_set]
      exact rGive_ok W hR (by rw [marks_len]; exact hl) (by rw [List.length_map]; exact hg) (by rw [marks_at hp, ht])
  · refine ⟨6, l, gs, fun W v hP => ?_, fun W vv tv gv hR => ?_, hI, by omega, by omega⟩
    · exact (Give_bad W hP hno (by omega)).mono fun e w' ⟨h1, h2⟩ => ⟨h1, h2.of_nil, Held.same hP h2⟩
    · exact (rGive_bad W hR (by rw [marks_len]; exact hl) (not_there hno)).mono fun e w' ⟨h1, h2⟩ => ⟨h1, h2.of_nil, RH.same hR h2⟩

theorem set_step (hI : Inv l gs V most) (hl : l.length ≤ 1000) (i y : Int) : ∃ (c : Int) (l' : List Slot) (V' : List Int),
    (∀ W v, Pl W g v l (enc gs) (nt (marks l) : Nat) most → Calls Try.prog 18 #[.pointer (some ⟨g, 0, none⟩), .int .i64 i, .int .i64 y] W fun e w' => e = .returned (.int .i64 c) ∧ Fr (Foot g v) W w' ∧ Held W g v l' (enc gs) (nt (marks l') : Nat) most w') ∧
    (∀ W vv tv gv, RP W x vv tv gv V (marks l) (given gs) most → Calls Try.prog 27 #[.pointer (some ⟨x, 0, none⟩), .int .i64 i, .int .i64 y] W fun e w' => e = .returned (.int .i64 c) ∧ Fr (RF x vv tv gv) W w' ∧ RH W x vv tv gv V' (marks l') (given gs) most w') ∧
    Inv l' gs V' most ∧ l'.length ≤ l.length + 1 := by
  rcases there_or l i with ⟨k, p, rfl, hp, ht⟩ | hno
  · have hk := (List.getElem?_eq_some_iff.1 hp).1
    have hm : marks (l.set k (y, p.2)) = marks l := by
      rw [marks_set]
      apply List.ext_getElem?
      intro j
      by_cases e : j = k
      · subst e
        rw [marks_at hp]
        simp [marks_len, hk]
      · rw [List.getElem?_set_ne (fun x => e x.symm)]
    refine ⟨0, l.set k (y, p.2), V.set k y, fun W v hP => ?_, fun W vv tv gv hR => ?_, hI.put hp ht y, by simp⟩
    · rw [hm]
      exact Set_ok W hP hp ht (by omega)
    · rw [hm]
      exact rSet_ok W hR (by rw [marks_len]; exact hl) (by rw [marks_len]; exact hI.len) (by rw [marks_at hp, ht])
  · refine ⟨6, l, V, fun W v hP => ?_, fun W vv tv gv hR => ?_, hI, by omega⟩
    · exact (Set_bad W hP hno (by omega)).mono fun e w' ⟨h1, h2⟩ => ⟨h1, h2.of_nil, Held.same hP h2⟩
    · exact (rSet_bad W hR (by rw [marks_len]; exact hl) (not_there hno)).mono fun e w' ⟨h1, h2⟩ => ⟨h1, h2.of_nil, RH.same hR h2⟩

theorem take_step (hI : Inv l gs V most) (hl : l.length ≤ 1000) (y : Int) : ∃ (r c : Int) (l' : List Slot) (gs' : List Nat) (V' : List Int),
    (∀ W v, Pl W g v l (enc gs) (nt (marks l) : Nat) most → Calls Try.prog 8 #[.pointer (some ⟨g, 0, none⟩), .int .i64 y] W fun e w' => e = .returned (.tuple #[.int .i64 r, .int .i64 c]) ∧ Fr (Foot g v) W w' ∧ Held W g v l' (enc gs') (nt (marks l') : Nat) most w') ∧
    (∀ W vv tv gv, RP W x vv tv gv V (marks l) (given gs) most → Calls Try.prog 28 #[.pointer (some ⟨x, 0, none⟩), .int .i64 y] W fun e w' => e = .returned (.tuple #[.int .i64 r, .int .i64 c]) ∧ Fr (RF x vv tv gv) W w' ∧ RH W x vv tv gv V' (marks l') (given gs') most w') ∧
    Inv l' gs' V' most ∧ l'.length ≤ l.length + 1 ∧ gs'.length ≤ gs.length + 1 := by
  have hnl := nt_le (marks l)
  rw [marks_len] at hnl
  rcases gs with _ | ⟨k, gs⟩
  · by_cases hm : l.length < most
    · have hs : marks (l ++ [(y, 0, true)]) = marks l ++ [true] := by simp [marks]
      refine ⟨(l.length : Int) + 1, 0, l ++ [(y, 0, true)], [], V ++ [y], fun W v hP => ?_, fun W vv tv gv hR => ?_, hI.more hm y, by simp, by simp⟩
      · have h2 : ((nt (marks (l ++ [(y, 0, true)])) : Nat) : Int) = (nt (marks l) : Nat) + 1 := by
          rw [hs, nt_snoc]; simp
        rw [h2]
        exact Take_new W hP hm (by omega) (by omega)
      · rw [hs, ← hI.len]
        exact rTake_new (T := marks l) W hR (by rw [marks_len]; exact hl) (by rw [marks_len]; exact hI.len) (by omega)
    · refine ⟨0, 4, l, [], V, fun W v hP => ?_, fun W vv tv gv hR => ?_, hI, by omega, by omega⟩
      · exact (Take_full W hP (by omega) (by omega)).mono fun e w' ⟨h1, h2⟩ => ⟨h1, h2.of_nil, Held.same hP h2⟩
      · exact (rTake_full W hR (by rw [marks_len]; exact hl) (hI.full (by omega))).mono fun e w' ⟨h1, h2⟩ => ⟨h1, h2.of_nil, RH.same hR h2⟩
  · obtain ⟨⟨p, hp, ht, hx⟩, ho, hc⟩ := hI.ch
    have hk := (List.getElem?_eq_some_iff.1 hp).1
    refine ⟨(k : Int) + 1, 0, l.set k (y, 0, true), gs, V.set k y, fun W v hP => ?_, fun W vv tv gv hR => ?_, hI.reuse hp y, by simp, by simp; omega⟩
    · have h1 := nt_set (marks l) k false true (by rw [marks_at hp, ht])
      have h2 : ((nt (marks (l.set k (y, 0, true))) : Nat) : Int) = (nt (marks l) : Nat) + 1 := by
        have e := marks_set l k (y, 0, true)
        dsimp only at e
        rw [e]
        simp at h1
        omega
      rw [h2, ← hx]
      exact Take_reuse W hP hp (by omega) (by omega)
    · rw [marks_set]
      have hlt := nt_lt (T := marks l) (k := k) (by rw [marks_at hp, ht])
      rw [marks_len] at hlt
      have := hI.le
      exact rTake_reuse W hR (by rw [marks_len]; exact hl) (by rw [marks_len]; exact hI.len) (by rw [marks_len]; exact hk) (by omega)
end
end Go.Proofs.Ytemofdbepalnkaa.PoolM
