/- Chapter 5: the walks of the law's own functions: few. -/
import Derived.Test.YtendhgnhncnabaaFiveA
import Derived.Test.YtendhgnhncnabaaMem
namespace Go.Proofs.Ytendhgnhncnabaa.FiveB
open Go.RowKit TrapA TrapB Base FiveA
set_option linter.unusedVariables false
set_option linter.unusedSimpArgs false

theorem Try.info_step : (Try.prog.info? 51).map (fun i => (i.zero, i.size, i.bytes)) = some (some (.agg #[.int .i64 0, .int .i64 0, .int .i64 0, .int .i64 0, .int .i64 0]), 5, 40) := by kernel_rfl

/-- the cell j places behind p -/
def nx (p : Addr) (j : Nat) : Addr := ⟨p.block, p.off + j, none⟩
/-- the steps that come in, as they lie in memory -/
def Lies (w : World) (a : Addr) (l : List St) : Prop := ∀ (i : Nat) (s : St), l[i]? = some s →
  w.cell? (a.add (i * 5)) = some (.int .i64 s.k) ∧ w.cell? ⟨(a.add (i * 5)).block, (a.add (i * 5)).off + 1, none⟩ = some (.int .i64 s.wh) ∧ w.cell? ⟨(a.add (i * 5)).block, (a.add (i * 5)).off + 2, none⟩ = some (.int .i64 s.c) ∧
  w.cell? ⟨(a.add (i * 5)).block, (a.add (i * 5)).off + 3, none⟩ = some (.int .i64 s.at_) ∧ w.cell? ⟨(a.add (i * 5)).block, (a.add (i * 5)).off + 4, none⟩ = some (.int .i64 s.many)

theorem Lies.fr {w w' : World} {a : Addr} {l : List St} {S : Nat → Prop} (h : Lies w a l) (hfr : Fr S w w') (ha : a.block < w.heap.size) (hs : ¬ S a.block) : Lies w' a l := fun i s his => by
  have hb : (a.add (i * 5)).block < w.heap.size := by rw [block_add]; exact ha
  have hs' : ¬ S (a.add (i * 5)).block := by rw [block_add]; exact hs
  obtain ⟨h0, h1, h2, h3, h4⟩ := h i s his
  exact ⟨(hfr.cell hb hs').trans h0, (hfr.cell (p := ⟨_, _, none⟩) hb hs').trans h1, (hfr.cell (p := ⟨_, _, none⟩) hb hs').trans h2, (hfr.cell (p := ⟨_, _, none⟩) hb hs').trans h3, (hfr.cell (p := ⟨_, _, none⟩) hb hs').trans h4⟩

theorem take_trim {l : List St} {k : Nat} {s : St} (h : l[k]? = some s) : (l.take (k + 1)).map trim = (l.take k).map trim ++ [trim s] := by
  obtain ⟨hk, rfl⟩ := List.getElem?_eq_some_iff.1 h
  rw [List.take_succ_eq_append_getElem hk, List.map_append]
  rfl

theorem fewL_at {l : List St} {k : Nat} (h : k ≤ l.length) (h2 : k ≤ 20) (h3 : l.length ≤ k ∨ 20 ≤ k) : (fewL l).length = k ∧ flat (fewL l) = flat ((l.take k).map trim) := by
  have : l.take 20 = l.take k := by
    rcases h3 with h3 | h3
    · rw [List.take_of_length_le (by omega), List.take_of_length_le (by omega)]
    · rw [show k = 20 by omega]
  unfold fewL
  rw [this]
  exact ⟨by rw [List.length_map, List.length_take]; omega, rfl⟩

set_option maxHeartbeats 400000 in
theorem few_any (l : List St) (a : Addr) (cap : Nat) (w : World) (hl : l.length ≤ maxLen) (hw : Lies w a l) (ha : a.block < w.heap.size) :
    Calls Try.prog 8 #[.slice (some a) l.length cap] w fun e w' => ∃ v, e = .returned v ∧ Fr Nil w w' ∧ w'.ownsRow w.heap.size 51 5 v (fewL l).length (flat (fewL l)) ∧ v ≠ .slice none 0 0 := by
  have hl' : l.length ≤ 9223372036854775807 := hl
  clear hl
  obtain ⟨i0, hi, hz0, hz1, hz2⟩ := info_parts Try.info_step
  go_enter Try.func8, Try.ntmps8
  go_wp2_with fail
  go_loopw [3, 4] (fun v i wr => ∃ k : Nat, k ≤ l.length ∧ k ≤ 20 ∧ i = .int .i64 k ∧ wr.ownsRow w.heap.size 51 5 v k (flat ((l.take k).map trim)) ∧ v ≠ .slice none 0 0 ∧ Fr Nil w wr) (fun _ i _ => 20 - (intOf i).toNat)
  case atStart => exact ⟨0, by omega, by omega, rfl, World.ownsRow_made _ _ _ (Nat.le_refl _) (Nat.zero_le _) rfl, by simp, (Fr.refl _ _).alloc _⟩
  case round =>
    obtain ⟨k, hk, hk2, rfl, hown, hnn, hfr⟩ := hrel
    by_cases hlt : k < l.length
    · by_cases h20 : k < 20
      · obtain ⟨s, hs⟩ : ∃ s, l[k]? = some s := ⟨l[k], List.getElem?_eq_getElem hlt⟩
        obtain ⟨c0, c1, c2, c3, c4⟩ := (hw.fr hfr ha id) k s hs
        have hts := take_trim hs
        have hT : (trim s).cells = [.int .i64 s.k, .int .i64 s.wh, .int .i64 s.c, .int .i64 s.at_, .int .i64 (if s.many < 0 ∨ 50 < s.many then 3 else s.many)] := by unfold trim; split <;> rfl
        have HT := Lib.hid (And.intro hts hT)
        clear hts hT
        rcases Int.lt_or_le s.many 0 with hm | hm
        · have hmm := Lib.hid (show (if s.many < 0 ∨ 50 < s.many then (3 : Int) else s.many) = 3 from if_pos (Or.inl hm))
          go_wp2_with (at_builtin; refine wpList_append_own _ rfl (.tmp 30) (.tmp 32) 22 rfl w.heap.size 51 i0 _ 5 40 Try.underlying22 hi hz0 hz1 hz2 rfl (by decide) u3 k _ rfl ((hown.alloc _).alloc _) ⟨wr.heap.size + 1, 0, none⟩ 1 1 [.int .i64 s.k, .int .i64 s.wh, .int .i64 s.c, .int .i64 s.at_, .int .i64 3] rfl rfl (cells_new _ _ _ _ (by simp)) (by intro u hu; simp at hu; rcases hu with rfl | rfl | rfl | rfl | rfl <;> rfl) (by unfold maxLen; omega) (by omega) (by have := hfr.size; simp; omega) ?_; intro v' w1 hown' hgrow hnil)
          go_roundw
          case rel => exact ⟨k + 1, by omega, by omega, by go_num, by rw [HT.out.1, flat_snoc, HT.out.2, hmm.out]; exact hown', fun h => hnn (hnil.1 h).1, ((hfr.alloc _).alloc _).append hgrow fun g hg => (hown.lt g hg).1⟩
          case measure => simp [intOf]; omega
        · rcases Int.lt_or_le 50 s.many with hm2 | hm2
          · have hmm := Lib.hid (show (if s.many < 0 ∨ 50 < s.many then (3 : Int) else s.many) = 3 from if_pos (Or.inr hm2))
            go_wp2_with (at_builtin; refine wpList_append_own _ rfl (.tmp 30) (.tmp 32) 22 rfl w.heap.size 51 i0 _ 5 40 Try.underlying22 hi hz0 hz1 hz2 rfl (by decide) u3 k _ rfl ((hown.alloc _).alloc _) ⟨wr.heap.size + 1, 0, none⟩ 1 1 [.int .i64 s.k, .int .i64 s.wh, .int .i64 s.c, .int .i64 s.at_, .int .i64 3] rfl rfl (cells_new _ _ _ _ (by simp)) (by intro u hu; simp at hu; rcases hu with rfl | rfl | rfl | rfl | rfl <;> rfl) (by unfold maxLen; omega) (by omega) (by have := hfr.size; simp; omega) ?_; intro v' w1 hown' hgrow hnil)
            go_roundw
            case rel => exact ⟨k + 1, by omega, by omega, by go_num, by rw [HT.out.1, flat_snoc, HT.out.2, hmm.out]; exact hown', fun h => hnn (hnil.1 h).1, ((hfr.alloc _).alloc _).append hgrow fun g hg => (hown.lt g hg).1⟩
            case measure => simp [intOf]; omega
          · have hmm := Lib.hid (show (if s.many < 0 ∨ 50 < s.many then (3 : Int) else s.many) = s.many from if_neg (by omega))
            go_wp2_with (at_builtin; refine wpList_append_own _ rfl (.tmp 30) (.tmp 32) 22 rfl w.heap.size 51 i0 _ 5 40 Try.underlying22 hi hz0 hz1 hz2 rfl (by decide) u3 k _ rfl ((hown.alloc _).alloc _) ⟨wr.heap.size + 1, 0, none⟩ 1 1 [.int .i64 s.k, .int .i64 s.wh, .int .i64 s.c, .int .i64 s.at_, .int .i64 s.many] rfl rfl (cells_new _ _ _ _ (by simp)) (by intro u hu; simp at hu; rcases hu with rfl | rfl | rfl | rfl | rfl <;> rfl) (by unfold maxLen; omega) (by omega) (by have := hfr.size; simp; omega) ?_; intro v' w1 hown' hgrow hnil)
            go_roundw
            case rel => exact ⟨k + 1, by omega, by omega, by go_num, by rw [HT.out.1, flat_snoc, HT.out.2, hmm.out]; exact hown', fun h => hnn (hnil.1 h).1, ((hfr.alloc _).alloc _).append hgrow fun g hg => (hown.lt g hg).1⟩
            case measure => simp [intOf]; omega
      · have hk20 : ¬ k < 20 := h20
        go_wp2
        go_ret
        exact ⟨u3, rfl, hfr, by rw [(fewL_at hk hk2 (by omega)).1, (fewL_at hk hk2 (by omega)).2]; exact hown, hnn⟩
    · go_wp2
      go_ret
      exact ⟨u3, rfl, hfr, by rw [(fewL_at hk hk2 (by omega)).1, (fewL_at hk hk2 (by omega)).2]; exact hown, hnn⟩

theorem few_empty (A : Option Addr) (cap : Nat) (w : World) :
    Calls Try.prog 8 #[.slice A 0 cap] w fun e w' => ∃ v, e = .returned v ∧ Fr Nil w w' ∧ w'.ownsRow w.heap.size 51 5 v 0 [] ∧ v ≠ .slice none 0 0 := by
  go_enter Try.func8, Try.ntmps8
  go_wp2_with fail
  refine wp_loop_rounds 1 ?_
  rw [rounds_succ]
  go_wp2
  go_ret
  exact ⟨_, rfl, (Fr.refl _ _).alloc _, World.ownsRow_made _ _ _ (Nat.le_refl _) (Nat.zero_le _) rfl, by simp⟩

/-- a slice of steps, nil or not -/
def Slc (w : World) (A : Option Addr) (l : List St) : Prop := l ≠ [] → ∃ a, A = some a ∧ a.block < w.heap.size ∧ Lies w a l

theorem few_calls (l : List St) (A : Option Addr) (cap : Nat) (w : World) (hl : l.length ≤ maxLen) (hw : Slc w A l) :
    Calls Try.prog 8 #[.slice A l.length cap] w fun e w' => ∃ v, e = .returned v ∧ Fr Nil w w' ∧ w'.ownsRow w.heap.size 51 5 v (fewL l).length (flat (fewL l)) ∧ v ≠ .slice none 0 0 := by
  cases l with
  | nil => exact few_empty A cap w
  | cons s r =>
    obtain ⟨a, rfl, ha, hl'⟩ := hw (by simp)
    exact few_any _ a cap w hl hl' ha
end Go.Proofs.Ytendhgnhncnabaa.FiveB
