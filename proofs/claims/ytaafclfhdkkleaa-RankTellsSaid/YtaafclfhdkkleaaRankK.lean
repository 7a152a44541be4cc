/- Chapter 9: the walks of Few, Has (of many), lives. -/
import Derived.Test.YtaafclfhdkkleaaRankJ
import Derived.Test.YtaafclfhdkkleaaSlices
namespace Go.Proofs.Ytaafclfhdkkleaa.RankK
open Go.RowKit Base SortA IntB IntC IntD IntE IntG IntH IntI IntJ IntK IntL IntQ RankA RankB RankC RankD RankF RankG RankH RankI RankJ Quiet
set_option linter.unusedVariables false
set_option linter.unusedSimpArgs false

/-- a list cut, in memory of the call's own -/
def New (l : List Pr) (w : World) (e : Ending) (w' : World) : Prop := ∃ u, e = .returned u ∧ Fr Nil w w' ∧ Own w' w.heap.size u l ∧ u ≠ .slice none 0 0

theorem Few_any (l : List Pr) (k : Nat) (v : Value) (w : World) (hv : Come w v l) (hk : k ≤ 1000) (hm : l.length ≤ maxLen) :
    Calls Try.prog 7 #[v, .int .i64 (k : Int)] w (New (l.take k) w) := by
  obtain ⟨i0, hi, hz0, hz1, hz2⟩ := info_parts Try.info_int
  rcases hv with ⟨rfl, rfl⟩ | ⟨a, cap, rfl, hc, hr⟩
  · go_enter Try.func7, Try.ntmps7
    go_wp2_with (at_builtin; refine wpList_append_own_none rfl (.tmp 12) (.tmp 13) 22 rfl w.heap.size 3 i0 1 Try.underlying22 hi _ 0 [] rfl (World.ownsRow_made _ _ _ (Nat.le_refl _) (Nat.zero_le _) rfl) rfl ?_)
    go_ret
    exact ⟨_, rfl, (Fr.refl _ _).alloc _, by rw [List.take_nil]; exact World.ownsRow_made _ _ _ (Nat.le_refl _) (Nat.zero_le _) rfl, by simp⟩
  · have hcells : ∀ (x : Obj) (j : Nat) (u : Value), (flat (l.take k))[j]? = some u → (w.alloc x).cell? (a.add j) = some u := by
      intro x j u hu
      have e : l = l.take k ++ l.drop k := (List.take_append_drop k l).symm
      have hx : (flat l)[j]? = some u := by
        rw [e, flat_append, List.getElem?_append_left (List.getElem?_eq_some_iff.1 hu).1]
        exact hu
      rw [World.cell?_alloc_lt _ _ _ (World.block_lt_of_cell? w _ (hr j u hx))]
      exact hr j u hx
    have HC := Lib.hid (hcells (.cells #[] 3))
    clear hr hcells
    have hm' : l.length ≤ 9223372036854775807 := hm
    clear hm
    have hk0 : (0 : Int) ≤ k := Int.natCast_nonneg k
    by_cases h60 : (k : Int) < l.length
    · have h2 : (k : Int) ≤ cap := by omega
      have hlen : (l.take k).length = k := by rw [List.length_take]; omega
      go_enter Try.func7, Try.ntmps7
      go_wp2_with (at_builtin; refine wpList_append_own _ rfl (.tmp 12) (.tmp 13) 22 rfl w.heap.size 3 i0 _ 1 8 Try.underlying22 hi hz0 hz1 hz2 rfl (by decide) _ 0 [] rfl (World.ownsRow_made _ _ _ (Nat.le_refl _) (Nat.zero_le _) rfl) a k _ (flat (l.take k)) rfl (by rw [flat_len, hlen, Nat.mul_one]) ?_ (flat_one _) (by unfold maxLen; omega) (by omega) (by simp) ?_; rotate_left; intro v' w1 hown' hgrow hnil)
      go_ret
      exact ⟨v', rfl, ((Fr.refl _ _).alloc _).append hgrow (fun g hg => by cases hg; exact Nat.le_refl _), by unfold Own; simpa [hlen] using hown', fun h => by have := (hnil.1 h).1; cases this⟩
      exact HC.out
    · have hlen : (l.take k).length = l.length := by rw [List.length_take]; omega
      go_enter Try.func7, Try.ntmps7
      go_wp2_with (at_builtin; refine wpList_append_own _ rfl (.tmp 12) (.tmp 13) 22 rfl w.heap.size 3 i0 _ 1 8 Try.underlying22 hi hz0 hz1 hz2 rfl (by decide) _ 0 [] rfl (World.ownsRow_made _ _ _ (Nat.le_refl _) (Nat.zero_le _) rfl) a l.length _ (flat (l.take k)) rfl (by rw [flat_len, hlen, Nat.mul_one]) ?_ (flat_one _) (by unfold maxLen; omega) (by omega) (by simp) ?_; rotate_left; intro v' w1 hown' hgrow hnil)
      go_ret
      exact ⟨v', rfl, ((Fr.refl _ _).alloc _).append hgrow (fun g hg => by cases hg; exact Nat.le_refl _), by unfold Own; simpa [hlen] using hown', fun h => by have := (hnil.1 h).1; cases this⟩
      exact HC.out

theorem Sl.come {w : World} {v : Value} {l : List Pr} (h : Sl w v l) : Come w v l := by
  rcases h with h | ⟨g, o, cap, rfl, hc, ha, hr⟩
  · exact Or.inl h
  · exact Or.inr ⟨_, cap, rfl, hc, hr.flat⟩

/-- Few, of a list that is short -/
theorem Few_sl (l : List Pr) (k : Nat) (v : Value) (w : World) (hv : Sl w v l) (hk : k ≤ 1000) (hl : l.length ≤ k) :
    Calls Try.prog 7 #[v, .int .i64 (k : Int)] w (New l w) := by
  have h := Few_any l k v w (Sl.come hv) hk (by unfold maxLen; omega)
  rwa [List.take_of_length_le hl] at h

/-- are all of these there -/
def hasAll (l m : List Pr) : Bool := m.all fun p => has l p.1
theorem hasAll_step {l m : List Pr} {k : Nat} {p : Pr} (h : m[k]? = some p) : hasAll l (m.take (k + 1)) = (hasAll l (m.take k) && has l p.1) := by
  obtain ⟨hk, rfl⟩ := List.getElem?_eq_some_iff.1 h
  unfold hasAll
  rw [List.take_succ_eq_append_getElem hk, List.all_append]
  simp
theorem hasAll_not {l m : List Pr} {k : Nat} {p : Pr} (h : m[k]? = some p) (hp : has l p.1 = false) : hasAll l m = false := by
  unfold hasAll
  rw [List.all_eq_false]
  exact ⟨p, List.mem_of_getElem? h, by rw [hp]; simp⟩

theorem Has_any (l m : List Pr) (v u : Value) (w : World) (hl : l.length ≤ 100000) (hm : m.length ≤ 100000) (ho : Srt l) (hv : Rk w v l) (hu : Sl w u m) :
    Calls Try.prog 18 #[v, u] w fun e w' => e = .returned (.bool (hasAll l m)) ∧ Fr Nil w w' := by
  rcases hu with ⟨rfl, rfl⟩ | ⟨g, o, cap, rfl, hc, ha, hr⟩
  · clear hv ho
    go_enter Try.func18, Try.ntmps18
    go_wp2_with fail
    refine wp_loop_rounds 1 ?_
    rw [rounds_succ]
    go_wp2
    go_ret
    exact ⟨rfl, by (repeat' (with_reducible first | refine Fr.setCell ?_ (fun hlt => absurd hlt (by dsimp only; omega)) _ | refine Fr.alloc ?_ _ | refine Fr.drewN ?_ _ | refine Fr.drew ?_ | exact Fr.refl _ _))⟩
  · have KR := Lib.hid (fun W (p : Pr) (h : Fr Nil w W) => rank_any l p v W hl ho (hv.fr h))
    clear hv
    go_enter Try.func18, Try.ntmps18
    go_wp2_with fail
    go_loopw [11] (fun i wr => ∃ j : Nat, j ≤ m.length ∧ i = .int .i64 j ∧ hasAll l (m.take j) = true ∧ Fr Nil w wr) (fun i _ => m.length - (intOf i).toNat)
    case atStart => exact ⟨0, by omega, rfl, rfl, by (repeat' (with_reducible first | refine Fr.setCell ?_ (fun hlt => absurd hlt (by dsimp only; omega)) _ | refine Fr.alloc ?_ _ | refine Fr.drewN ?_ _ | refine Fr.drew ?_ | exact Fr.refl _ _))⟩
    case round =>
      obtain ⟨j, hj, rfl, hs, hf⟩ := hrel
      have HF := Lib.hid hf
      by_cases hlt : j < m.length
      · obtain ⟨p, hp⟩ : ∃ p, m[j]? = some p := ⟨m[j], List.getElem?_eq_getElem hlt⟩
        obtain ⟨c0, _⟩ := (hr.fr hf ha id) j p hp
        have hE := hasAll_step (l := l) hp
        rw [hs, Bool.true_and] at hE
        have hN := hasAll_not (l := l) hp
        have hI := has_iff ho p.1
        have KP := Lib.hid (KR.out wr p hf)
        rw [← hI] at KP
        clear hf hs hI
        cases hb : has l p.1 with
        | true =>
          rw [hb] at KP hE
          have HE := Lib.hid hE
          clear hE hN hb hp
          go_wp2_with fail
          refine KP.out.mono ?_
          rintro e w1 ⟨rfl, hf1⟩
          have HF1 := Lib.hid (HF.out.trans hf1)
          clear hf1
          go_wp2_with fail
          go_roundw
          case rel => exact ⟨j + 1, by omega, by go_num, HE.out, HF1.out⟩
          case measure => simp [intOf]; omega
        | false =>
          rw [hb] at KP
          have HE := Lib.hid (hN hb)
          clear hE hN hb hp
          go_wp2_with fail
          refine KP.out.mono ?_
          rintro e w1 ⟨rfl, hf1⟩
          have HF1 := Lib.hid (HF.out.trans hf1)
          clear hf1
          go_wp2_with fail
          go_ret
          exact ⟨by rw [HE.out]; rfl, HF1.out⟩
      · obtain rfl : j = m.length := by omega
        rw [List.take_length] at hs
        have HE := Lib.hid hs
        clear hs hf
        go_wp2_with fail
        go_ret
        exact ⟨by rw [HE.out]; rfl, HF.out⟩
end Go.Proofs.Ytaafclfhdkkleaa.RankK
