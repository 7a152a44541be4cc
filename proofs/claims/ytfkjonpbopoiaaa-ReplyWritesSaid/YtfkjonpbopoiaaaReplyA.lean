/- Chapter 30: replies as values; the walks of rising, good, the reference's Good and Same. -/
import Derived.Test.YtfkjonpbopoiaaaVintB
import Derived.BigQuiet
import Derived.WalkSpells
import Derived.WalkLawsBesides
import Derived.Deep.RegionHeld3
namespace Go.Proofs.Ytfkjonpbopoiaaa.ReplyA
open Go.RowKit Base Slices VintA VintB Quiet
set_option linter.unusedVariables false
set_option linter.unusedSimpArgs false

theorem Try.info_int : (Try.prog.info? 3).map (fun i => (i.zero, i.size, i.bytes)) = some (some (.int .i64 0), 1, 8) := by kernel_rfl
def EI : El Int := { ty := 3, sl := 23, size := 1, bytes := 8, cells := fun n => [.int .i64 n] }
theorem EI_ok : EI.Ok Try.prog := by
  obtain ⟨i0, hi, hz0, hz1, hz2⟩ := info_parts Try.info_int
  exact ⟨Try.underlying23, ⟨i0, _, hi, hz0, hz1, hz2, rfl⟩, by decide, by decide, fun _ => rfl, fun a u hu => by simp [EI] at hu; subst hu; rfl⟩

/-- a reply -/
structure Rp where
  c : Int
  a : Bool
  l : Bool
  n : Int
  ids : List Int
def rc (r : Rp) (s : Value) : Array Value := #[.int .i64 r.c, .bool r.a, .bool r.l, .int .i64 r.n, s]
def rv (r : Rp) (s : Value) : Value := .agg (rc r s)
/-- a reply as a value: its ids lie in a slice -/
def Rv (w : World) (v : Value) (r : Rp) : Prop := ∃ s, v = rv r s ∧ Sl EI w s r.ids
theorem Rv.fr {w w' : World} {v : Value} {r : Rp} (h : Rv w v r) (hf : Fr Nil w w') : Rv w' v r := by
  obtain ⟨s, rfl, hs⟩ := h
  exact ⟨s, rfl, hs.fr hf⟩

/-- the answer is true just if P -/
def Tells (P : Prop) (e : Ending) : Prop := ∃ b, e = .returned (.bool b) ∧ (b = true ↔ P)
theorem Tells.yes {P : Prop} (h : P) : Tells P (.returned (.bool true)) := ⟨true, rfl, by simp [h]⟩
theorem Tells.no {P : Prop} (h : ¬ P) : Tells P (.returned (.bool false)) := ⟨false, rfl, by simp [h]⟩
def Asc (l : List Int) : Prop := ∀ (i : Nat) x y, l[i]? = some x → l[i + 1]? = some y → x ≤ y
def Odd (n : Int) : Prop := n < 1 ∨ 2147483647 < n
def Ris (l : List Int) : Prop := Asc l ∧ ∀ n ∈ l, ¬ Odd n
def GoodR (r : Rp) : Prop := 0 ≤ r.c ∧ r.c ≤ 12 ∧ (r.l = true → r.a = true) ∧ (r.a = true → r.c = 0) ∧ 0 ≤ r.n ∧ r.n ≤ 1048576 ∧ (r.a = false → r.n = 0) ∧ (r.l = false → r.ids = []) ∧ (r.l = true → (r.ids.length : Int) = r.n) ∧ Ris r.ids

section
variable (w : World)
theorem isNaN_any (a : Int) : Calls Try.prog 46 #[.int .i64 a] w fun e w' => e = .returned (.bool false) ∧ Fr Nil w w' := by
  go_enter Try.func46, Try.ntmps46
  go_wp2_with fail
  exact bodyPost_ret (v := .bool false) (by simp [results, Try.results46, go_sem]) rfl ⟨rfl, by (repeat' (with_reducible first | refine Fr.setCell ?_ (fun hlt => absurd hlt (by dsimp only; omega)) _ | refine Fr.alloc ?_ _ | refine Fr.drewN ?_ _ | refine Fr.drew ?_ | exact Fr.refl _ _))⟩
theorem less_any (a b : Int) : Calls Try.prog 41 #[.int .i64 a, .int .i64 b] w fun e w' => e = .returned (.bool (decide (a < b))) ∧ Fr Nil w w' := by
  have K := Lib.hid (isNaN_any w a)
  go_enter Try.func41, Try.ntmps41
  go_wp2_with fail
  refine K.out.mono ?_
  rintro e w1 ⟨rfl, hf1⟩
  go_wp2_with fail
  exact bodyPost_ret (v := .bool (decide (a < b))) (by simp [results, Try.results41, go_sem]) rfl ⟨rfl, hf1⟩

theorem odd_any (n : Int) : Calls Try.prog 31 #[.int .i64 n] w fun e w' => Tells (Odd n) e ∧ Fr Nil w w' := by
  by_cases h1 : n < 1
  · go_enter Try.func31, Try.ntmps31
    go_wp2_with fail
    go_ret
    exact ⟨Tells.yes (Or.inl h1), Fr.refl _ _⟩
  · by_cases h2 : 2147483647 < n
    · go_enter Try.func31, Try.ntmps31
      go_wp2_with fail
      go_ret
      exact ⟨Tells.yes (Or.inr h2), Fr.refl _ _⟩
    · go_enter Try.func31, Try.ntmps31
      go_wp2_with fail
      go_ret
      exact ⟨Tells.no (by unfold Odd; omega), Fr.refl _ _⟩

theorem row_at {w : World} {g o : Nat} {l : List Int} (h : Row EI w g o l) {i : Nat} {x : Int} (hx : l[i]? = some x) : w.cell? ⟨g, o + i, none⟩ = some (.int .i64 x) := by
  have := h.at EI_ok hx (j := 0) (u := .int .i64 x) rfl
  simpa [EI] using this

theorem sorted_any (l : List Int) (v : Value) (hl : l.length ≤ 100000) (hv : Sl EI w v l) :
    Calls Try.prog 32 #[v] w fun e w' => Tells (Asc l) e ∧ Fr Nil w w' := by
  rcases hv with ⟨rfl, rfl⟩ | ⟨g, o, cap, rfl, hc, ha, hr⟩
  · go_enter Try.func32, Try.ntmps32
    go_wp2_with fail
    refine wp_loop_rounds 1 ?_
    rw [rounds_succ]
    go_wp2
    go_ret
    exact ⟨Tells.yes (by simp [Asc]), Fr.refl _ _⟩
  · have KL := Lib.hid (fun W a b => less_any W a b)
    have hl0 : (0 : Int) ≤ l.length := Int.natCast_nonneg _
    have HR := Lib.hid hr
    clear hr
    go_enter Try.func32, Try.ntmps32
    go_wp2_with fail
    go_loopw [3] (fun i wr => ∃ j : Int, i = .int .i64 j ∧ -1 ≤ j ∧ j < l.length ∧ (∀ (k : Nat) x y, j ≤ k → l[k]? = some x → l[k + 1]? = some y → x ≤ y) ∧ Fr Nil w wr) (fun i _ => (intOf i).toNat)
    case atStart =>
      refine ⟨_, rfl, by omega, by omega, fun k x y hk hx hy => ?_, Fr.refl _ _⟩
      have := (List.getElem?_eq_some_iff.1 hy).1
      omega
    case round =>
      obtain ⟨j, rfl, hj0, hj1, hs, hf⟩ := hrel
      have HF := Lib.hid hf
      have HS := Lib.hid hs
      clear hs hf
      by_cases hlt : 0 < j
      · obtain ⟨k, rfl⟩ : ∃ k : Nat, j = (k : Int) + 1 := ⟨(j - 1).toNat, by omega⟩
        have hk1 : k + 1 < l.length := by omega
        obtain ⟨x, hx⟩ : ∃ x, l[k]? = some x := ⟨l[k], List.getElem?_eq_getElem (by omega)⟩
        obtain ⟨y, hy⟩ : ∃ y, l[k + 1]? = some y := ⟨l[k + 1], List.getElem?_eq_getElem (by omega)⟩
        have HX := Lib.hid hx
        have HY := Lib.hid hy
        have q1 := fun (p : FrW Nil wr) => row_at (HR.out.fr (HF.out.trans p.fr) ha id) hx
        have q2 := fun (p : FrW Nil wr) => row_at (HR.out.fr (HF.out.trans p.fr) ha id) hy
        have KL2 := Lib.hid (fun W => KL.out W y x)
        clear hx hy
        go_wp2_with fail
        refine wp_region_quiet_fr Nil (by kernel_rfl) (by kernel_rfl) ?_
        repeat (go_big_quiet_step (first
          | (go_at_call 41; with_reducible exact quiet_call (KL2.out _))))
        refine wpQuiet_nil ?_
        intro _ hw'
        obtain ⟨⟨wq, hfq⟩, hw''⟩ := hw'
        subst hw''
        by_cases hyx : y < x
        · go_wp2_with fail
          go_ret
          refine ⟨Tells.no fun hA => ?_, HF.out.trans hfq⟩
          have := hA k x y HX.out HY.out
          omega
        · go_wp2_with fail
          go_roundw
          case rel =>
            refine ⟨k, by go_num, by omega, by omega, fun m x' y' hm hx' hy' => ?_, HF.out.trans hfq⟩
            by_cases he : m = k
            · subst he
              have h1 := HX.out
              have h2 := HY.out
              rw [h1] at hx'
              rw [h2] at hy'
              cases hx'
              cases hy'
              omega
            · exact HS.out m x' y' (by omega) hx' hy'
          case measure => simp [intOf]
      · go_wp2_with fail
        go_ret
        exact ⟨Tells.yes fun m x y hx hy => HS.out m x y (by omega) hx hy, HF.out⟩
end
end Go.Proofs.Ytfkjonpbopoiaaa.ReplyA
