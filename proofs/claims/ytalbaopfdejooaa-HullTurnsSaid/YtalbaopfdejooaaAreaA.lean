/- Chapter 3: points in memory, and which of them do not lie where points may. -/
import Derived.Test.YtalbaopfdejooaaKernB
import Derived.Test.YtalbaopfdejooaaSlices
import Derived.Test.YtalbaopfdejooaaWhole
namespace Go.Proofs.Ytalbaopfdejooaa.AreaA
open Go.RowKit Base Slices RowsA KernA KernB
set_option linter.unusedVariables false
set_option linter.unusedSimpArgs false

/-- a point: its id, x, y -/
abbrev Pn := Int × Int × Int
def pc (p : Pn) : List Value := [.int .i64 p.1, .int .i64 p.2.1, .int .i64 p.2.2]
/-- points as elements -/
def EPt : El Pn := { ty := 34, sl := 22, size := 3, bytes := 24, cells := pc }
theorem info_pt : (Try.prog.info? 34).map (fun i => (i.zero, i.size, i.bytes)) = some (some (.agg #[.int .i64 0, .int .i64 0, .int .i64 0]), 3, 24) := by kernel_rfl
theorem EPt_ok : EPt.Ok Try.prog := by
  obtain ⟨i0, hi, hz0, hz1, hz2⟩ := info_parts info_pt
  exact ⟨Try.underlying22, ⟨i0, _, hi, hz0, hz1, hz2, rfl⟩, by decide, by decide, fun _ => rfl, fun a u hu => by simp [EPt, pc] at hu; rcases hu with rfl | rfl | rfl <;> rfl⟩
/-- it lies where points may -/
def lie (p : Pn) : Bool := lieB p.2.1 p.2.2
theorem pt_at {w : World} {g o : Nat} {l : List Pn} (h : Row EPt w g o l) {i : Nat} {p : Pn} (hp : l[i]? = some p) :
    w.cell? ⟨g, o + i * 3, none⟩ = some (.int .i64 p.1) ∧ w.cell? ⟨g, o + i * 3 + 1, none⟩ = some (.int .i64 p.2.1) ∧ w.cell? ⟨g, o + i * 3 + 2, none⟩ = some (.int .i64 p.2.2) := by
  have h0 := Row.at EPt_ok h hp (j := 0) (u := .int .i64 p.1) rfl
  have h1 := Row.at EPt_ok h hp (j := 1) (u := .int .i64 p.2.1) rfl
  have h2 := Row.at EPt_ok h hp (j := 2) (u := .int .i64 p.2.2) rfl
  refine ⟨h0, ?_, ?_⟩
  · rw [Nat.add_assoc]; exact h1
  · rw [Nat.add_assoc]; exact h2

def oddV : Value := .func (.func 68) #[] #[]
set_option maxHeartbeats 1000000 in
theorem odd_any (p : Pn) (w : World) : Calls Try.prog 68 #[.agg #[.int .i64 p.1, .int .i64 p.2.1, .int .i64 p.2.2]] w fun e w' => e = .returned (.bool (!lie p)) ∧ Fr Nil w w' := by
  have k0 := fun W => lies_any p.1 p.2.1 p.2.2 W
  unfold lie
  generalize lieB p.2.1 p.2.2 = b0 at *
  have K0 := Lib.hid k0
  clear k0
  go_enter Try.func68, Try.ntmps68
  go_wp2_with fail
  refine (K0.out _).mono ?_
  rintro e w0 ⟨rfl, hf⟩
  have g1 := Fr.trans (a := w) (by (repeat' (with_reducible first | refine Fr.setCell ?_ (fun hlt => absurd hlt (by dsimp only; omega)) _ | refine Fr.alloc ?_ _ | refine Fr.drewN ?_ _ | refine Fr.drew ?_ | exact Fr.refl _ _))) hf
  clear hf
  go_wp2_with fail
  exact bodyPost_ret (v := .bool _) (by simp [results, Try.results68, go_sem]) rfl ⟨rfl, by (repeat' (with_reducible first | exact g1 | refine Fr.setCell ?_ (fun hlt => absurd hlt (by dsimp only; omega)) _ | refine Fr.alloc ?_ _ | refine Fr.drewN ?_ _ | refine Fr.drew ?_))⟩

set_option maxRecDepth 100000 in
set_option maxHeartbeats 4000000 in
theorem index_any (l : List Pn) (v : Value) (w : World) (hl : l.length ≤ 1000) (hv : Sl EPt w v l) :
    Calls Try.prog 70 #[v, oddV] w fun e w' => ∃ n : Int, e = .returned (.int .i64 n) ∧ Fr Nil w w' ∧ ((n = -1 ∧ ∀ p ∈ l, lie p = true) ∨ (0 ≤ n ∧ ∃ p ∈ l, lie p = false)) := by
  unfold oddV
  rcases hv with ⟨rfl, rfl⟩ | ⟨g, o, cap, rfl, hc, ha, hr⟩
  · go_enter Try.func70, Try.ntmps70
    go_wp2_with fail
    refine wp_loop_rounds 1 ?_
    rw [rounds_succ]
    go_wp2
    go_ret
    exact ⟨_, rfl, Fr.refl _ _, Or.inl ⟨rfl, by simp⟩⟩
  · go_enter Try.func70, Try.ntmps70
    go_wp2_with fail
    go_loopw [8] (fun i wr => ∃ (k : Nat), k ≤ l.length ∧ i = .int .i64 k ∧ (∀ (j : Nat) p, j < k → l[j]? = some p → lie p = true) ∧ Fr Nil w wr) (fun i _ => l.length - (intOf i).toNat)
    case atStart => exact ⟨0, by omega, rfl, fun j p h => absurd h (by omega), Fr.refl _ _⟩
    case round =>
      obtain ⟨k, hk, rfl, ho, hf⟩ := hrel
      by_cases hlt : k < l.length
      · obtain ⟨y, hy⟩ : ∃ y, l[k]? = some y := ⟨l[k], List.getElem?_eq_getElem hlt⟩
        obtain ⟨c0, c1, c2⟩ := pt_at (hr.fr hf ha id) hy
        have HF := Lib.hid hf
        have KO := Lib.hid (fun W => odd_any y W)
        have HO := Lib.hid ho
        have HY := Lib.hid hy
        have HM := Lib.hid (List.mem_of_getElem? hy)
        clear hf ho hy
        rcases hz : lie y with _ | _
        · have HZ := Lib.hid hz
          simp only [hz, Bool.not_false] at KO
          clear hz
          go_wp2_with fail
          refine (KO.out _).mono ?_
          rintro e w2 ⟨rfl, hfq⟩
          have HF2 := Lib.hid (HF.out.trans hfq)
          clear hfq
          go_wp2_with fail
          go_ret
          exact ⟨_, rfl, HF2.out, Or.inr ⟨by omega, y, HM.out, HZ.out⟩⟩
        · have HZ := Lib.hid hz
          simp only [hz, Bool.not_true] at KO
          clear hz
          go_wp2_with fail
          refine (KO.out _).mono ?_
          rintro e w2 ⟨rfl, hfq⟩
          have HF2 := Lib.hid (HF.out.trans hfq)
          clear hfq
          go_wp2_with fail
          go_roundw
          case rel =>
            refine ⟨k + 1, by omega, by go_num, fun j p hj hp => ?_, HF2.out⟩
            rcases Nat.lt_or_ge j k with h | h
            · exact HO.out j p h hp
            · obtain rfl : j = k := by omega
              have e := HY.out
              rw [hp] at e
              obtain rfl := Option.some.inj e
              exact HZ.out
          case measure => simp [intOf]; omega
      · obtain rfl : k = l.length := by omega
        go_wp2_with fail
        go_ret
        refine ⟨_, rfl, hf, Or.inl ⟨rfl, fun p hp => ?_⟩⟩
        obtain ⟨j, hj, rfl⟩ := List.getElem_of_mem hp
        exact ho j _ hj (List.getElem?_eq_getElem hj)

set_option maxHeartbeats 1000000 in
theorem contains_any (l : List Pn) (v : Value) (w : World) (hl : l.length ≤ 1000) (hv : Sl EPt w v l) :
    Calls Try.prog 49 #[v, oddV] w fun e w' => ∃ b : Bool, e = .returned (.bool b) ∧ Fr Nil w w' ∧ ((b = false ∧ ∀ p ∈ l, lie p = true) ∨ (b = true ∧ ∃ p ∈ l, lie p = false)) := by
  have K := Lib.hid (index_any l v w hl hv)
  obtain ⟨A, c, rfl⟩ := hv.shape
  unfold oddV at *
  clear hv
  go_enter Try.func49, Try.ntmps49
  go_wp2_with fail
  refine K.out.mono ?_
  rintro e w2 ⟨n, rfl, hfq, hn⟩
  rcases hn with ⟨rfl, h⟩ | ⟨h0, h⟩
  · go_wp2_with fail
    go_ret
    exact ⟨_, rfl, hfq, Or.inl ⟨rfl, h⟩⟩
  · go_wp2_with fail
    go_ret
    exact ⟨_, rfl, hfq, Or.inr ⟨by simp [h0], h⟩⟩
end Go.Proofs.Ytalbaopfdejooaa.AreaA
