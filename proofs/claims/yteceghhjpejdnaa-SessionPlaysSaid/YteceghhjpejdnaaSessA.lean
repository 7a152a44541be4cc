/- Chapter 32: a session in memory; the walks of New, Phase, Tries, Budget, in. -/
import Derived.Test.YteceghhjpejdnaaCodecR
import Derived.Test.YteceghhjpejdnaaTrapG
namespace Go.Proofs.Yteceghhjpejdnaa.SessA
open Go.RowKit Base Big Slices TrapA TrapB TrapG CodecA CodecB CodecC CodecK
set_option linter.unusedVariables false
set_option linter.unusedSimpArgs false

/-- a session: its phase, what it is about, how often it failed, how often it may -/
def sc (p : Int) (r : Rq) (t b : Int) : Array Value := #[.int .i64 p, .int .i64 r.k, .int .i64 r.ck, .int .i64 r.p0, .int .i64 r.p1, .int .i64 r.p2, .int .i64 r.s0, .int .i64 r.s1, .int .i64 r.s2, .int .i64 r.qk, .int .i64 r.x1, .int .i64 r.x2, .int .i64 r.y1, .int .i64 r.y2, .int .i64 r.v1, .int .i64 r.v2, .int .i64 r.v3, .int .i64 r.x, .int .i64 r.h, .int .i64 t, .int .i64 b]
abbrev Ss (w : World) (g : Nat) (p : Int) (r : Rq) (t b : Int) : Prop := Bk w g 62 (sc p r t b)
theorem Try.info_phase : (Try.prog.info? 42).map (fun i => (i.zero, i.size, i.bytes)) = some (some (.int .i64 0), 1, 8) := by kernel_rfl
def EP : El Int := { ty := 42, sl := 47, size := 1, bytes := 8, cells := fun n => [.int .i64 n] }
theorem EP_ok : EP.Ok Try.prog := by
  obtain ⟨i0, hi, hz0, hz1, hz2⟩ := info_parts Try.info_phase
  exact ⟨Try.underlying47, ⟨i0, _, hi, hz0, hz1, hz2, rfl⟩, by decide, by decide, fun _ => rfl, fun a u hu => by simp [EP] at hu; subst hu; rfl⟩
theorem ep_row {w : World} {g o n c : Nat} {l : List Int} (h : Sl EP w (.slice (some ⟨g, o, none⟩) n c) l) : Row EP w g o l := by
  rcases h with ⟨h, _⟩ | ⟨g', o', cap, h, _, _, hr⟩
  · cases h
  · cases h; exact hr
theorem ep_cell {w : World} {g o i : Nat} {l : List Int} {x : Int} (h : Row EP w g o l) (hx : l[i]? = some x) : w.cell? ⟨g, o + i, none⟩ = some (.int .i64 x) := by
  have := h.at EP_ok hx (j := 0) (u := .int .i64 x) rfl
  simpa [EP] using this

section
variable (w : World)
theorem New_ok (b : Int) (h0 : 0 ≤ b) (h1 : b ≤ 1000) : Calls Try.prog 6 #[.int .i64 b] w fun e w' => e = .returned (.tuple #[.pointer (some ⟨w.heap.size, 0, none⟩), .int .i64 0]) ∧ Fr Nil w w' ∧ Ss w' w.heap.size 0 zQ 0 b := by
  have n0 : ¬ b < 0 := by omega
  have n1 : ¬ (1000 : Int) < b := by omega
  go_enter Try.func6, Try.ntmps6
  go_wp2_with fail
  exact bodyPost_ret (v := .tuple #[.pointer (some ⟨w.heap.size, 0, none⟩), .int .i64 0]) (by simp [results, Try.results6, go_sem]) rfl ⟨rfl, (Fr.refl _ _).alloc _, Bk.new _ _ _⟩
theorem New_bad (b : Int) (h : b < 0 ∨ 1000 < b) : Calls Try.prog 6 #[.int .i64 b] w fun e w' => e = .returned (.tuple #[.pointer none, .int .i64 1]) ∧ Fr Nil w w' := by
  rcases Int.lt_or_le b 0 with n0 | n0
  · go_enter Try.func6, Try.ntmps6
    go_wp2_with fail
    exact bodyPost_ret (v := .tuple #[.pointer none, .int .i64 1]) (by simp [results, Try.results6, go_sem]) rfl ⟨rfl, Fr.refl _ _⟩
  · have n1 : (1000 : Int) < b := by omega
    have n2 : ¬ b < 0 := by omega
    go_enter Try.func6, Try.ntmps6
    go_wp2_with fail
    exact bodyPost_ret (v := .tuple #[.pointer none, .int .i64 1]) (by simp [results, Try.results6, go_sem]) rfl ⟨rfl, Fr.refl _ _⟩
theorem Phase_any {g : Nat} {p : Int} {r : Rq} {t b : Int} (hB : Ss w g p r t b) : Calls Try.prog 9 #[.pointer (some ⟨g, 0, none⟩)] w fun e w' => e = .returned (.int .i64 p) ∧ Fr Nil w w' := by
  have c0 : w.cell? ⟨g, 0, none⟩ = some (.int .i64 p) := hB.cell 0
  clear hB
  go_enter Try.func9, Try.ntmps9
  go_wp2_with fail
  go_ret
  exact ⟨rfl, Fr.refl _ _⟩
theorem Tries_any {g : Nat} {p : Int} {r : Rq} {t b : Int} (hB : Ss w g p r t b) : Calls Try.prog 10 #[.pointer (some ⟨g, 0, none⟩)] w fun e w' => e = .returned (.int .i64 t) ∧ Fr Nil w w' := by
  have c0 : w.cell? ⟨g, 19, none⟩ = some (.int .i64 t) := hB.cell 19
  clear hB
  go_enter Try.func10, Try.ntmps10
  go_wp2_with fail
  go_ret
  exact ⟨rfl, Fr.refl _ _⟩
theorem Budget_any {g : Nat} {p : Int} {r : Rq} {t b : Int} (hB : Ss w g p r t b) : Calls Try.prog 15 #[.pointer (some ⟨g, 0, none⟩)] w fun e w' => e = .returned (.int .i64 b) ∧ Fr Nil w w' := by
  have c0 : w.cell? ⟨g, 20, none⟩ = some (.int .i64 b) := hB.cell 20
  clear hB
  go_enter Try.func15, Try.ntmps15
  go_wp2_with fail
  go_ret
  exact ⟨rfl, Fr.refl _ _⟩
theorem in_ok {g : Nat} {p : Int} {r : Rq} {t b c : Int} (a n : Nat) (l : List Int) (hB : Ss w g p r t b) (hl : Sl EP w (.slice (some ⟨a, 0, none⟩) n n) l) (hn : l.length = n) (hn1 : n ≤ 4) (hp : p ∈ l) :
    Calls Try.prog 30 #[.pointer (some ⟨g, 0, none⟩), .int .i64 c, .slice (some ⟨a, 0, none⟩) n n] w fun e w' => e = .returned (.tuple #[]) ∧ Fr Nil w w' := by
  have c0 : w.cell? ⟨g, 0, none⟩ = some (.int .i64 p) := hB.cell 0
  have HR := Lib.hid (ep_row hl)
  have HP := Lib.hid hp
  have HN := Lib.hid hn
  have hn4 : (n : Int) ≤ 4 := by omega
  clear hB hl hp hn
  go_enter Try.func30, Try.ntmps30
  go_wp2_with fail
  go_loop [10] (fun i => ∃ k : Nat, k ≤ n ∧ i = .int .i64 k ∧ ∀ x ∈ l.take k, x ≠ p) (fun i => n - (intOf i).toNat)
  case atStart => exact ⟨0, by omega, rfl, by simp⟩
  case round =>
    obtain ⟨k, hk, rfl, hne⟩ := hrel
    have HNe := Lib.hid hne
    by_cases hlt : k < n
    · have hkl : k < l.length := by have := HN.out; omega
      obtain ⟨y, hy⟩ : ∃ y, l[k]? = some y := ⟨l[k], List.getElem?_eq_getElem hkl⟩
      have hc := ep_cell HR.out hy
      simp only [Nat.zero_add] at hc
      have HY := Lib.hid hy
      have hlt' : (k : Int) < n := by omega
      have hk4 : (k : Int) ≤ 4 := by omega
      clear hne hy hkl
      by_cases hpy : p = y
      · subst hpy
        go_wp2_with fail
        exact bodyPost_ret (v := .tuple #[]) (by simp [results, Try.results30, go_sem]) rfl ⟨rfl, Fr.refl _ _⟩
      · go_wp2_with fail
        go_round
        case rel =>
          refine ⟨k + 1, by omega, by go_num, fun x hx => ?_⟩
          obtain ⟨h1, h2⟩ := List.getElem?_eq_some_iff.1 HY.out
          rw [List.take_succ_eq_append_getElem h1, h2] at hx
          rcases List.mem_append.1 hx with hx | hx
          · exact HNe.out x hx
          · simp at hx; subst hx; exact fun e => hpy e.symm
        case measure => simp [intOf]; omega
    · exfalso
      refine hne p ?_ rfl
      rw [List.take_of_length_le (by have := HN.out; omega)]
      exact HP.out
theorem in_bad {g : Nat} {p : Int} {r : Rq} {t b c : Int} (hc : (c != 0) = true) (a n : Nat) (l : List Int) (hB : Ss w g p r t b) (hl : Sl EP w (.slice (some ⟨a, 0, none⟩) n n) l) (hn : l.length = n) (hn1 : n ≤ 4) (hp : p ∉ l) :
    Calls Try.prog 30 #[.pointer (some ⟨g, 0, none⟩), .int .i64 c, .slice (some ⟨a, 0, none⟩) n n] w fun e w' => e = .panicked [fault p c] ∧ Fr Nil w w' := by
  have c0 : w.cell? ⟨g, 0, none⟩ = some (.int .i64 p) := hB.cell 0
  have HR := Lib.hid (ep_row hl)
  have HP := Lib.hid hp
  have HN := Lib.hid hn
  have KT := Lib.hid (fun W => Throw_bad p c hc W)
  have hn4 : (n : Int) ≤ 4 := by omega
  clear hB hl hp hn hc
  go_enter Try.func30, Try.ntmps30
  go_wp2_with fail
  go_loop [10] (fun i => ∃ k : Nat, k ≤ n ∧ i = .int .i64 k) (fun i => n - (intOf i).toNat)
  case atStart => exact ⟨0, by omega, rfl⟩
  case round =>
    obtain ⟨k, hk, rfl⟩ := hrel
    by_cases hlt : k < n
    · have hkl : k < l.length := by have := HN.out; omega
      obtain ⟨y, hy⟩ : ∃ y, l[k]? = some y := ⟨l[k], List.getElem?_eq_getElem hkl⟩
      have hc := ep_cell HR.out hy
      simp only [Nat.zero_add] at hc
      have hpy : ¬ p = y := fun e => HP.out (by rw [e]; exact List.mem_of_getElem? hy)
      have hlt' : (k : Int) < n := by omega
      have hk4 : (k : Int) ≤ 4 := by omega
      clear hy hkl
      go_wp2_with fail
      go_round
      case rel => exact ⟨k + 1, by omega, by go_num⟩
      case measure => simp [intOf]; omega
    · obtain rfl : k = n := by omega
      go_wp2_with fail
      refine (KT.out _).mono ?_
      rintro e w1 ⟨rfl, rfl⟩
      exact ⟨rfl, rfl, Fr.refl _ _⟩
end
end Go.Proofs.Yteceghhjpejdnaa.SessA
