/- Chapter 5: the walks of the reference's functions: Thrown, All. -/
import Derived.Test.YtendhgnhncnabaaFiveB
namespace Go.Proofs.Ytendhgnhncnabaa.FiveC
open Go.RowKit TrapA TrapB Base FiveA FiveB
set_option linter.unusedVariables false
set_option linter.unusedSimpArgs false

def faultOf : Option (Int × Int) → Value
  | some (x, c) => .agg #[.int .i64 x, .int .i64 c]
  | none => .agg #[.int .i64 0, .int .i64 0]

def St.agg (s : St) : Value := .agg #[.int .i64 s.k, .int .i64 s.wh, .int .i64 s.c, .int .i64 s.at_, .int .i64 s.many]

theorem thrown_w (k wh c a m x y : Int) (b : Bool) (w : World)
    (h : (k = 1 ∧ (c ≠ 0 ∧ x = wh ∧ y = c ∧ b = true ∨ c = 0 ∧ x = 0 ∧ y = 0 ∧ b = false)) ∨ (k = 2 ∧ x = 0 ∧ y = 1 ∧ b = true) ∨
      (k = 3 ∧ (a < 0 ∧ x = 0 ∧ y = 1 ∧ b = true ∨ 0 ≤ a ∧ m ≤ a ∧ x = 0 ∧ y = 1 ∧ b = true ∨ 0 ≤ a ∧ a < m ∧ x = 0 ∧ y = 0 ∧ b = false)) ∨ (k ≠ 1 ∧ k ≠ 2 ∧ k ≠ 3 ∧ x = 0 ∧ y = 0 ∧ b = false)) :
    Calls Try.prog 22 #[.agg #[.int .i64 k, .int .i64 wh, .int .i64 c, .int .i64 a, .int .i64 m]] w fun e w' => e = .returned (.tuple #[.agg #[.int .i64 x, .int .i64 y], .bool b]) ∧ Fr Nil w w' := by
  rcases h with ⟨rfl, ⟨hc, rfl, rfl, rfl⟩ | ⟨rfl, rfl, rfl, rfl⟩⟩ | ⟨rfl, rfl, rfl, rfl⟩ | ⟨rfl, ⟨h1, rfl, rfl, rfl⟩ | ⟨h1, h2, rfl, rfl, rfl⟩ | ⟨h1, h2, rfl, rfl, rfl⟩⟩ | ⟨h1, h2, h3, rfl, rfl, rfl⟩
  all_goals
    go_enter Try.func22, Try.ntmps22
    go_wp2
    refine bodyPost_ret (v := .tuple #[.agg #[.int .i64 _, .int .i64 _], .bool _]) (by simp [results, Try.results22, go_sem]) rfl ⟨rfl, ?_⟩
    exact ((Fr.refl _ _).alloc _).alloc _

theorem thrown_calls (s : St) (w : World) :
    Calls Try.prog 22 #[St.agg s] w fun e w' => e = .returned (.tuple #[faultOf (thrown s), .bool (thrown s).isSome]) ∧ Fr Nil w w' := by
  obtain ⟨k, wh, c, a, m⟩ := s
  unfold St.agg thrown
  by_cases h1 : k = 1
  · by_cases hc : c = 0
    · simp [h1, hc, faultOf]
      exact thrown_w 1 wh 0 a m 0 0 false w (by simp)
    · simp [h1, hc, faultOf]
      exact thrown_w 1 wh c a m wh c true w (by simp [hc])
  · by_cases h2 : k = 2
    · simp [h2, faultOf]
      exact thrown_w 2 wh c a m 0 1 true w (by simp)
    · by_cases h3 : k = 3
      · by_cases h4 : a < 0 ∨ m ≤ a
        · simp [h3, h4, faultOf]
          exact thrown_w 3 wh c a m 0 1 true w (by simp; omega)
        · simp [h3, h4, faultOf]
          exact thrown_w 3 wh c a m 0 0 false w (by simp; omega)
      · simp [h1, h2, h3, faultOf]
        exact thrown_w k wh c a m 0 0 false w (by simp [h1, h2, h3])

theorem all_any (l : List St) (a : Addr) (cap : Nat) (w : World) (hl : l.length ≤ maxLen) (hw : Lies w a l) (ha : a.block < w.heap.size) :
    Calls Try.prog 12 #[.slice (some a) l.length cap] w fun e w' => e = .returned (.tuple #[faultOf (scan l).1, .bool (scan l).1.isSome, .int .i64 (scan l).2]) ∧ Fr Nil w w' := by
  have hl' : l.length ≤ 9223372036854775807 := hl
  clear hl
  go_enter Try.func12, Try.ntmps12
  go_wp2_with fail
  go_loopw [5] (fun i wr => ∃ k : Nat, k ≤ l.length ∧ i = .int .i64 k ∧ (∀ i x, i < k → l[i]? = some x → thrown x = none) ∧ Bk wr w.heap.size 30 #[.int .i64 0, .int .i64 0] ∧ Fr Nil w wr) (fun i _ => l.length - (intOf i).toNat)
  case atStart => exact ⟨0, by omega, rfl, fun i x hi => absurd hi (by omega), Bk.new _ _ _, (Fr.refl _ _).alloc _⟩
  case round =>
    obtain ⟨k, hk, rfl, hall, hbk, hfr⟩ := hrel
    have HALL := Lib.hid hall
    clear hall
    obtain ⟨b0, b1, f0, f1⟩ := hbk.c2
    have hlt0 := hbk.lt
    by_cases hlt : k < l.length
    · obtain ⟨s, hs⟩ : ∃ s, l[k]? = some s := ⟨l[k], List.getElem?_eq_getElem hlt⟩
      obtain ⟨c0, c1, c2, c3, c4⟩ := (hw.fr hfr ha id) k s hs
      have HS := Lib.hid hs
      have HT0 := thrown_calls s
      unfold St.agg at HT0
      clear hs
      rcases ht : thrown s with _ | ⟨x, c⟩
      · rw [ht] at HT0
        have HTT := Lib.hid ht
        clear ht
        unfold faultOf at HT0
        have HT := Lib.hid HT0
        clear HT0
        go_wp2_with (go_at_call 22; refine (HT.out _).mono ?_; rintro e w1 ⟨rfl, hf1⟩)
        go_roundw
        case rel =>
          refine ⟨k + 1, by omega, by go_num, fun i x hi hx => ?_, (hbk.fr hf1 id).alloc _, (hfr.trans hf1).alloc _⟩
          rcases Nat.lt_or_ge i k with h | h
          · exact HALL.out i x h hx
          · obtain rfl : i = k := by omega
            rw [HS.out] at hx
            cases hx
            exact HTT.out
        case measure => simp [intOf]; omega
      · rw [ht] at HT0
        have HX := Lib.hid (scan_stop HS.out ht HALL.out)
        clear ht
        unfold faultOf at HT0
        have HT := Lib.hid HT0
        clear HT0
        go_wp2_with (go_at_call 22; refine (HT.out _).mono ?_; rintro e w1 ⟨rfl, hf1⟩; have hbk1 := hbk.fr hf1 id; obtain ⟨e0, e1, g0, g1⟩ := hbk1.c2; have hlt1 := hbk1.lt)
        have hbk1 := hbk.fr hf1 id
        obtain ⟨d0, d1, _, _⟩ := (((hbk1.put 0 (.int .i64 x)).put 1 (.int .i64 c)).alloc (.cells #[.int .i64 x, .int .i64 c] 30)).c2
        rw [HX.out]
        refine bodyPost_ret (v := .tuple #[.agg #[.int .i64 x, .int .i64 c], .bool true, .int .i64 k]) (by simp [results, Try.results12, go_sem, d0, d1]) rfl ⟨rfl, ?_⟩
        exact (((hfr.trans hf1).setCell (fun h => absurd h (by simp)) _).setCell (fun h => absurd h (by simp)) _).alloc _
    · obtain rfl : k = l.length := by omega
      have HX := Lib.hid (scan_done HALL.out)
      go_wp2
      rw [HX.out]
      obtain ⟨d0, d1, _, _⟩ := ((hbk.put 0 (.int .i64 0)).put 1 (.int .i64 0)).c2
      refine bodyPost_ret (v := .tuple #[.agg #[.int .i64 0, .int .i64 0], .bool false, .int .i64 l.length]) (by simp [results, Try.results12, go_sem, d0, d1]) rfl ⟨rfl, ?_⟩
      exact (hfr.setCell (fun h => absurd h (by simp)) _).setCell (fun h => absurd h (by simp)) _

theorem all_empty (A : Option Addr) (cap : Nat) (w : World) :
    Calls Try.prog 12 #[.slice A 0 cap] w fun e w' => e = .returned (.tuple #[faultOf none, .bool false, .int .i64 0]) ∧ Fr Nil w w' := by
  go_enter Try.func12, Try.ntmps12
  go_wp2_with fail
  refine wp_loop_rounds 1 ?_
  rw [rounds_succ]
  go_wp2
  refine bodyPost_ret (v := .tuple #[.agg #[.int .i64 0, .int .i64 0], .bool false, .int .i64 0]) (by simp [results, Try.results12, go_sem]) rfl ⟨rfl, ?_⟩
  exact (Fr.refl _ _).alloc _

theorem all_calls (l : List St) (A : Option Addr) (cap : Nat) (w : World) (hl : l.length ≤ maxLen) (hw : Slc w A l) :
    Calls Try.prog 12 #[.slice A l.length cap] w fun e w' => e = .returned (.tuple #[faultOf (scan l).1, .bool (scan l).1.isSome, .int .i64 (scan l).2]) ∧ Fr Nil w w' := by
  cases l with
  | nil => exact all_empty A cap w
  | cons s r =>
    obtain ⟨a, rfl, ha, hl'⟩ := hw (by simp)
    exact all_any _ a cap w hl hl' ha
end Go.Proofs.Ytendhgnhncnabaa.FiveC
