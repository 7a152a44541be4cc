/- Chapter 32: the walk of Moves and of the law SessionMoves. -/
import Derived.Test.YteceghhjpejdnaaSessJ
import Derived.Test.YteceghhjpejdnaaQuiet
import Derived.BigQuiet
namespace Go.Proofs.Yteceghhjpejdnaa.SessM
open Go.RowKit Base Big Slices Quiet TrapA TrapB TrapG CodecA CodecB CodecC CodecK SessA SessB SessC SessD SessE SessF SessG SessH SessI SessJ
set_option linter.unusedVariables false
set_option linter.unusedSimpArgs false

theorem nxt_sorted {p : Int} {m : Nat} {x y : Int} (hy : (nxt p)[m]? = some y) (hx : (nxt p)[m + 1]? = some x) : y < x := by
  unfold nxt at hx hy
  match m with
  | 0 => repeat' split at hx
         all_goals (simp_all; try omega)
  | 1 => repeat' split at hx
         all_goals (simp_all; try omega)
  | 2 => repeat' split at hx
         all_goals (simp_all; try omega)
  | k + 3 => repeat' split at hx
             all_goals simp at hx
theorem nxt_len (p : Int) : (nxt p).length ≤ 4 := by
  unfold nxt
  repeat' split
  all_goals simp
/-- how many phases below k can come behind p -/
def cnt (p : Int) : Nat → Nat
  | 0 => 0
  | k + 1 => cnt p k + (if (k : Int) ∈ nxt p then 1 else 0)
theorem cnt_le (p : Int) : ∀ k, cnt p k ≤ k
  | 0 => Nat.le_refl _
  | k + 1 => by
    have := cnt_le p k
    unfold cnt
    split <;> omega
theorem cnt_all (p : Int) : cnt p 5 = (nxt p).length := by
  unfold cnt cnt cnt cnt cnt cnt nxt
  repeat' split
  all_goals simp_all

section
variable (w : World)
theorem moves_nil (p : Int) (h : p < 0 ∨ 3 < p) : Calls Try.prog 12 #[.int .i64 p] w fun e w' => ∃ v, e = .returned v ∧ Own EP w' w.heap.size v [] ∧ Fr Nil w w' := by
  have n0 : (p == 0) = false := by simp; omega
  have n1 : (p == 1) = false := by simp; omega
  have n2 : (p == 2) = false := by simp; omega
  have n3 : (p == 3) = false := by simp; omega
  clear h
  go_enter Try.func12, Try.ntmps12
  go_wp2_with fail
  go_ret
  exact ⟨_, rfl, Own.nil _ _, Fr.refl _ _⟩
theorem moves_2 : Calls Try.prog 12 #[.int .i64 2] w fun e w' => ∃ v, e = .returned v ∧ Own EP w' w.heap.size v [3, 4] ∧ Fr Nil w w' := by
  go_enter Try.func12, Try.ntmps12
  go_wp2_with fail
  go_ret
  exact ⟨_, rfl, Own.lit EP_ok [3, 4] rfl (Nat.le_refl _) (by decide) rfl, (Fr.refl _ _).alloc _⟩
theorem moves_3 : Calls Try.prog 12 #[.int .i64 3] w fun e w' => ∃ v, e = .returned v ∧ Own EP w' w.heap.size v [0, 4] ∧ Fr Nil w w' := by
  go_enter Try.func12, Try.ntmps12
  go_wp2_with fail
  go_ret
  exact ⟨_, rfl, Own.lit EP_ok [0, 4] rfl (Nat.le_refl _) (by decide) rfl, (Fr.refl _ _).alloc _⟩
theorem of_nil {k : Nat} (h : Of (.slice none 0 0) k) : False := by cases h
theorem moves_0 : Calls Try.prog 12 #[.int .i64 0] w fun e w' => ∃ v, e = .returned v ∧ Own EP w' w.heap.size v [1, 2, 4] ∧ Fr Nil w w' := by
  have HL := Lib.hid (lit_sl EP_ok (w := w) [1, 2, 4] (cs := #[.int .i64 1, .int .i64 2, .int .i64 4]) rfl rfl 42).come
  go_enter Try.func12, Try.ntmps12
  go_wp2_with (at_builtin; refine wpList_app EP_ok rfl (.tmp 15) (.tmp 16) 47 rfl rfl w.heap.size _ _ [] [1, 2, 4] rfl (Own.nil _ _) rfl HL.out (by decide) (by simp) ?_; intro v1 w1 o1 o2 o3 o4; have HO := Lib.hid (show Own EP w1 w.heap.size v1 [1, 2, 4] from o1); have HF := Lib.hid (show Fr Nil w w1 from ((Fr.refl Nil w).alloc _).trans (o2.mono fun k hk _ => (of_nil hk).elim)); clear o1 o2 o3 o4)
  go_ret
  exact ⟨_, rfl, HO.out, HF.out⟩
theorem moves_1 : Calls Try.prog 12 #[.int .i64 1] w fun e w' => ∃ v, e = .returned v ∧ Own EP w' w.heap.size v [0, 1, 2, 4] ∧ Fr Nil w w' := by
  have HL := Lib.hid (lit_sl EP_ok (w := w) [0] (cs := #[.int .i64 0]) rfl rfl 42).come
  go_enter Try.func12, Try.ntmps12
  go_wp2_with (first
    | (at_builtin; refine wpList_app EP_ok rfl (.tmp 12) (.tmp 13) 47 rfl rfl w.heap.size _ _ [] [0] rfl (Own.nil _ _) rfl HL.out (by decide) (by simp) ?_; intro v1 w1 o1 o2 o3 o4; have HO := Lib.hid (show Own EP w1 w.heap.size v1 [0] from o1); have HF := Lib.hid (show Fr Nil w w1 from ((Fr.refl Nil w).alloc _).trans (o2.mono fun k hk _ => (of_nil hk).elim)); clear o1 o2 o3 o4)
    | (at_builtin; refine wpList_app EP_ok rfl (.tmp 15) (.tmp 16) 47 rfl rfl w.heap.size _ _ [0] [1, 2, 4] rfl (HO.out.alloc _) rfl (lit_sl EP_ok (w := w1) [1, 2, 4] (cs := #[.int .i64 1, .int .i64 2, .int .i64 4]) rfl rfl 42).come (by decide) (by have := HF.out.size; simp; omega) ?_; intro v2 w2 o1 o2 o3 o4; have HO2 := Lib.hid (show Own EP w2 w.heap.size v2 [0, 1, 2, 4] from o1); have HF2 := Lib.hid (show Fr Nil w w2 from (HF.out.alloc _).then o2 (fun k hk hlt => by have := (HO.out.lt k hk).1; omega)); clear o1 o2 o3 o4))
  go_ret
  exact ⟨_, rfl, HO2.out, HF2.out⟩
theorem Moves_any (p : Int) : Calls Try.prog 12 #[.int .i64 p] w fun e w' => ∃ v, e = .returned v ∧ Own EP w' w.heap.size v (nxt p) ∧ Fr Nil w w' := by
  by_cases h0 : p = 0
  · subst h0; exact moves_0 w
  by_cases h1 : p = 1
  · subst h1; exact moves_1 w
  by_cases h2 : p = 2
  · subst h2; exact moves_2 w
  by_cases h3 : p = 3
  · subst h3; exact moves_3 w
  have e : nxt p = [] := by unfold nxt; rw [if_neg h0, if_neg h1, if_neg h2, if_neg h3]
  rw [e]
  exact moves_nil w p (by omega)

theorem moves_law (p : Int) : Calls Try.prog 4 #[.int .i64 p] w fun e w' => e = .returned (.bool true) ∧ Fr Nil w w' := by
  have K1 := Lib.hid (Moves_any w p)
  have KN : Hid (∀ W q, q ∈ nxt p → Calls Try.prog 13 #[.int .i64 p, .int .i64 q] W fun e w' => e = .returned (.bool true) ∧ Fr Nil W w') := Lib.hid (fun W q hq => by have := Next_any W p q; rwa [decide_eq_true hq] at this)
  have KM : Hid (∀ W q, q ∉ nxt p → Calls Try.prog 13 #[.int .i64 p, .int .i64 q] W fun e w' => e = .returned (.bool false) ∧ Fr Nil W w') := Lib.hid (fun W q hq => by have := Next_any W p q; rwa [decide_eq_false hq] at this)
  have KL := Lib.hid (fun W => lives_true W)
  have hl4 := nxt_len p
  go_enter Try.func4, Try.ntmps4
  go_wp2_with fail
  refine K1.out.mono ?_
  rintro e w1 ⟨v, rfl, ho, hf⟩
  have HF1 := Lib.hid hf
  obtain ⟨A, c, hv, HR⟩ : ∃ (A : Option Addr) (c : Nat), v = .slice A (nxt p).length c ∧ Hid ((nxt p).length = 0 ∨ ∃ g, A = some ⟨g, 0, none⟩ ∧ g < w1.heap.size ∧ Row EP w1 g 0 (nxt p)) := by
    rcases ho.sl EP_ok with ⟨rfl, h⟩ | _
    · exact ⟨none, 0, by rw [h]; rfl, Lib.hid (Or.inl (by rw [h]; rfl))⟩
    · rcases ho.shape with ⟨rfl, h⟩ | ⟨g, cap, rfl, h1, h2, h3, h4⟩
      · exact ⟨none, 0, by rw [h]; rfl, Lib.hid (Or.inl (by rw [h]; rfl))⟩
      · refine ⟨some ⟨g, 0, none⟩, cap, rfl, Lib.hid (Or.inr ⟨g, rfl, ?_, ?_⟩)⟩
        · exact h4
        · rcases ho.sl EP_ok with ⟨h, _⟩ | ⟨g', o', cap', h, _, _, hr⟩
          · cases h
          · cases h; exact hr
  subst hv
  clear hf ho K1
  have HN := Lib.hid (Eq.refl (nxt p).length)
  generalize hnn : (nxt p).length = n at *
  have HNN := Lib.hid hnn
  clear hnn HN
  have hn4 : (n : Int) ≤ 4 := by omega
  go_wp2_with fail
  go_loopw [4] (fun i wr => ∃ k : Nat, k ≤ n ∧ i = .int .i64 k ∧ Fr Nil w1 wr) (fun i _ => n - (intOf i).toNat)
  case atStart => exact ⟨0, by omega, rfl, Fr.refl _ _⟩
  case round =>
    obtain ⟨k, hk, rfl, hf⟩ := hrel
    have HF := Lib.hid hf
    clear hf
    by_cases hlt : k < n
    · have hlt' : (k : Int) < n := by omega
      have hkl : k < (nxt p).length := by have := HNN.out; omega
      obtain ⟨g, rfl, hg, hr⟩ : ∃ g, A = some ⟨g, 0, none⟩ ∧ g < w1.heap.size ∧ Row EP w1 g 0 (nxt p) := by
        rcases HR.out with h | h
        · omega
        · exact h
      obtain ⟨x, hx⟩ : ∃ x, (nxt p)[k]? = some x := ⟨(nxt p)[k], List.getElem?_eq_getElem hkl⟩
      have HX := Lib.hid (List.mem_of_getElem? hx)
      cases k with
      | zero =>
        go_wp2_with fail
        have q1 := fun (q : FrW Nil _) => ep_cell (hr.fr (HF.out.trans q.fr) hg id) hx
        simp only [Nat.zero_add] at q1
        clear hr hx hkl
        refine wp_region_quiet_fr Nil (by kernel_rfl) (by kernel_rfl) ?_
        repeat (go_big_quiet_step (first
          | (go_at_call 13; with_reducible exact quiet_call (KN.out _ _ HX.out))))
        refine wpQuiet_nil ?_
        intro _ hw'
        obtain ⟨⟨wq, hfq⟩, hw''⟩ := hw'
        subst hw''
        have HFQ := Lib.hid (HF.out.trans hfq)
        clear hfq q1
        go_wp2_with fail
        go_round
        case rel => exact ⟨1, by omega, by go_num, HFQ.out⟩
        case measure => simp [intOf]; omega
      | succ m =>
        obtain ⟨y, hy⟩ : ∃ y, (nxt p)[m]? = some y := ⟨(nxt p)[m], List.getElem?_eq_getElem (by omega)⟩
        have hyx := nxt_sorted hy hx
        have hnle : ¬ x ≤ y := by omega
        have hm4 : (m : Int) + 1 ≤ 4 := by omega
        go_wp2_with fail
        have q1 := fun (q : FrW Nil _) => ep_cell (hr.fr (HF.out.trans q.fr) hg id) hx
        have q2 := fun (q : FrW Nil _) => ep_cell (hr.fr (HF.out.trans q.fr) hg id) hy
        simp only [Nat.zero_add] at q1 q2
        clear hr hx hy hkl hyx
        refine wp_region_quiet_fr Nil (by kernel_rfl) (by kernel_rfl) ?_
        repeat (go_big_quiet_step (first
          | (go_at_call 13; with_reducible exact quiet_call (KN.out _ _ HX.out))))
        refine wpQuiet_nil ?_
        intro _ hw'
        obtain ⟨⟨wq, hfq⟩, hw''⟩ := hw'
        subst hw''
        have HFQ := Lib.hid (HF.out.trans hfq)
        clear hfq q1 q2
        go_wp2_with fail
        go_round
        case rel => exact ⟨m + 1 + 1, by omega, by go_num, HFQ.out⟩
        case measure => simp [intOf]; omega
    · obtain rfl : k = n := by omega
      have HF2 := Lib.hid (HF1.out.trans HF.out)
      clear HF HF1 HR
      go_wp2_with fail
      go_loopw [5, 6] (fun c i wr => ∃ j : Nat, j ≤ 5 ∧ i = .int .i64 j ∧ c = .int .i64 (cnt p j) ∧ Fr Nil w wr) (fun _ i _ => 5 - (intOf i).toNat)
      case atStart => exact ⟨0, by omega, rfl, rfl, HF2.out⟩
      case round =>
        obtain ⟨j, hj, rfl, rfl, hf⟩ := hrel
        have HF := Lib.hid hf
        clear hf HF2
        by_cases hj5 : j ≤ 4
        · have hj4 : (j : Int) ≤ 4 := by omega
          have hc := cnt_le p j
          by_cases hm : (j : Int) ∈ nxt p
          · have HC := Lib.hid (show cnt p (j + 1) = cnt p j + 1 by show cnt p j + _ = _; rw [if_pos hm])
            have HM := Lib.hid hm
            clear hm
            go_wp2_with fail
            refine (KN.out _ _ HM.out).mono ?_
            rintro e w3 ⟨rfl, hf3⟩
            have HF3 := Lib.hid (HF.out.trans hf3)
            clear hf3
            generalize cnt p j = cj at *
            go_wp2_with fail
            go_round
            case rel => exact ⟨j + 1, by omega, by go_num, by rw [HC.out]; go_num, HF3.out⟩
            case measure => simp [intOf]; omega
          · have HC := Lib.hid (show cnt p (j + 1) = cnt p j + 0 by show cnt p j + _ = _; rw [if_neg hm])
            have HM := Lib.hid hm
            clear hm
            go_wp2_with fail
            refine (KM.out _ _ HM.out).mono ?_
            rintro e w3 ⟨rfl, hf3⟩
            have HF3 := Lib.hid (HF.out.trans hf3)
            clear hf3
            generalize cnt p j = cj at *
            go_wp2_with fail
            go_round
            case rel => exact ⟨j + 1, by omega, by go_num, by rw [HC.out]; go_num, HF3.out⟩
            case measure => simp [intOf]; omega
        · obtain rfl : j = 5 := by omega
          have hc : cnt p 5 = k := by rw [cnt_all]; exact HNN.out
          rw [hc]
          clear hc
          go_wp2_with fail
          refine (KL.out _).mono ?_
          rintro e w3 ⟨rfl, hf3⟩
          have HF3 := Lib.hid (HF.out.trans hf3)
          clear hf3
          go_wp2_with fail
          go_ret
          exact ⟨rfl, HF3.out⟩
end
end Go.Proofs.Yteceghhjpejdnaa.SessM
