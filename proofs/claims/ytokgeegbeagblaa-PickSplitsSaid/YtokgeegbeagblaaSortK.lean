/- Chapter 7: the walk of merge. -/
import Derived.Test.YtokgeegbeagblaaSortJ
import Derived.Laws.MakeOwn
namespace Go.Proofs.Ytokgeegbeagblaa.SortK
open Go.RowKit Base SortA SortB SortC SortD SortE SortG SortI SortJ Quiet
set_option linter.unusedVariables false
set_option linter.unusedSimpArgs false

def lenV : Value → Nat
  | .slice _ n _ => n
  | _ => 0

theorem Sl.lenV {w : World} {v : Value} {l : List Pr} (h : Sl w v l) : SortK.lenV v = l.length := by
  rcases h with ⟨rfl, rfl⟩ | ⟨g, o, cap, rfl, _⟩ <;> rfl

theorem Sl.shape {w : World} {v : Value} {l : List Pr} (h : Sl w v l) : ∃ A c, v = .slice A l.length c := by
  rcases h with ⟨rfl, rfl⟩ | ⟨g, o, cap, rfl, _⟩
  · exact ⟨none, 0, rfl⟩
  · exact ⟨_, _, rfl⟩

theorem make_out (n : Nat) (hn : n ≤ 100000) (W : World) : (Instr.makeSlice 22 (.int .i64 0) (.int .i64 (n : Int))).run Try.prog W = .ok (.slice (some ⟨W.heap.size, 0, none⟩) 0 n) (W.alloc (.cells (madeCells (Value.agg #[.int .i64 0, .int .i64 0]).cells (n * 2)) 28)) := by
  obtain ⟨i0, hi, hz0, hz1, hz2⟩ := info_parts Try.info_pair
  have h := run_make (P := Try.prog) W 22 28 i0 _ Try.underlying22 hi hz0 .i64 .i64 0 n (by omega) (by omega) (by rw [hz2]; omega) (by omega)
  rw [hz1] at h
  simpa using h

/-- what one round takes -/
theorem merge_left (A : List Pr) (x y : Pr) (sa sb : List Pr) (h : y.1 < x.1) : A ++ mrg (x :: sa) (y :: sb) = (A ++ [y]) ++ mrg (x :: sa) sb := by
  rw [mrg, if_pos h]; simp
theorem merge_right (A : List Pr) (x y : Pr) (sa sb : List Pr) (h : ¬ y.1 < x.1) : A ++ mrg (x :: sa) (y :: sb) = (A ++ [x]) ++ mrg sa (y :: sb) := by
  rw [mrg, if_neg h]; simp

theorem tail1 {w : World} {g o cap : Nat} {x : Pr} {l : List Pr} (hc : (x :: l).length ≤ cap) (ha : g < w.heap.size) (hr : Row w g o (x :: l)) : Sl w (.slice (if cap = 1 then some ⟨g, o, none⟩ else some ⟨g, o + 2, none⟩) l.length (cap - 1)) l := by
  have h := tail_sl (l := x :: l) 1 hc (by simp) ha hr
  simpa using h

set_option maxRecDepth 100000 in
set_option maxHeartbeats 8000000 in
theorem merge_any (a b : List Pr) (va vb : Value) (w : World) (hla : a.length ≤ 1000) (hlb : b.length ≤ 1000) (hva : Sl w va a) (hvb : Sl w vb b) :
    Calls Try.prog 31 #[va, vb, lessV] w fun e w' => ∃ u, e = .returned u ∧ Fr Nil w w' ∧ Own w' w.heap.size u (mrg a b) ∧ u ≠ .slice none 0 0 := by
  unfold lessV
  obtain ⟨A0, c0, rfl⟩ := Sl.shape hva
  obtain ⟨B0, d0, rfl⟩ := Sl.shape hvb
  have hmk := fun W => make_out (a.length + b.length) (by omega) W
  rw [show ((a.length + b.length : Nat) : Int) = (a.length : Int) + b.length by omega] at hmk
  have HA := Lib.hid hva
  have HB := Lib.hid hvb
  clear hva hvb
  go_enter Try.func31, Try.ntmps31
  go_wp2_with fail
  clear hmk
  have O0 : Own (w.alloc (.cells (madeCells (Value.agg #[.int .i64 0, .int .i64 0]).cells ((a.length + b.length) * 2)) 28)) w.heap.size (.slice (some ⟨w.heap.size, 0, none⟩) 0 (a.length + b.length)) [] := World.ownsRow_made _ _ _ (Nat.le_refl _) (by unfold maxLen; omega) (size_madeCells _ _)
  have F0 : Fr Nil w (w.alloc (.cells (madeCells (Value.agg #[.int .i64 0, .int .i64 0]).cells ((a.length + b.length) * 2)) 28)) := by (repeat' (with_reducible first | refine Fr.setCell ?_ (fun hlt => absurd hlt (by dsimp only; omega)) _ | refine Fr.alloc ?_ _ | refine Fr.drewN ?_ _ | refine Fr.drew ?_ | exact Fr.refl _ _))
  go_loopw [0, 1, 7] (fun xa xb xo wr => ∃ sa sb so, Sl w xa sa ∧ Sl w xb sb ∧ Own wr w.heap.size xo so ∧ so ++ mrg sa sb = mrg a b ∧ sa.length ≤ 1000 ∧ sb.length ≤ 1000 ∧ so.length + sa.length + sb.length ≤ 2000 ∧ xo ≠ .slice none 0 0 ∧ Fr Nil w wr) (fun xa xb _ _ => lenV xa + lenV xb)
  case atStart => exact ⟨a, b, [], HA.out, HB.out, by simpa [Value.cells] using O0, by simp, hla, hlb, by simp; omega, by simp, by simpa [Value.cells] using F0⟩
  case round =>
    clear O0 F0
    obtain ⟨sa, sb, so, hsa, hsb, hso, he, hl1, hl2, hl3, hn, hf⟩ := hrel
    have LA := Lib.hid (Sl.lenV hsa)
    have LB := Lib.hid (Sl.lenV hsb)
    have HE := Lib.hid he
    have HS := Lib.hid hso
    have HN := Lib.hid hn
    have HF := Lib.hid hf
    have KA := Lib.hid hsa
    have KB := Lib.hid hsb
    have hcase : (sa ≠ [] ∧ sb ≠ []) ∨ (sa = [] ∨ sb = []) := by cases sa <;> cases sb <;> simp
    rcases hcase with ⟨h1, h2⟩ | hend
    · rcases hsa with ⟨rfl, rfl⟩ | ⟨ga, oa, ca, rfl, hca, hga, hra⟩
      · exact absurd rfl h1
      rcases hsb with ⟨rfl, rfl⟩ | ⟨gb, ob, cb, rfl, hcb, hgb, hrb⟩
      · exact absurd rfl h2
      obtain ⟨x, sa, rfl⟩ := List.exists_cons_of_ne_nil h1
      obtain ⟨y, sb, rfl⟩ := List.exists_cons_of_ne_nil h2
      obtain ⟨x0, x1⟩ := (hra.fr hf hga id) 0 x rfl
      obtain ⟨y0, y1⟩ := (hrb.fr hf hgb id) 0 y rfl
      rw [Nat.zero_mul, Nat.add_zero] at x0 x1 y0 y1
      have lga : ga < wr.heap.size := Nat.lt_of_lt_of_le hga hf.size
      have lgb : gb < wr.heap.size := Nat.lt_of_lt_of_le hgb hf.size
      have TA := Lib.hid (tail1 hca hga hra)
      have TB := Lib.hid (tail1 hcb hgb hrb)
      have q1 := fun (p : FrW Nil wr) => (p.fr.cell (p := ⟨ga, oa, none⟩) lga id).trans x0
      have q2 := fun (p : FrW Nil wr) => (p.fr.cell (p := ⟨ga, oa + 1, none⟩) lga id).trans x1
      have q3 := fun (p : FrW Nil wr) => (p.fr.cell (p := ⟨gb, ob, none⟩) lgb id).trans y0
      have q4 := fun (p : FrW Nil wr) => (p.fr.cell (p := ⟨gb, ob + 1, none⟩) lgb id).trans y1
      obtain ⟨x0', x1'⟩ := hra 0 x rfl
      obtain ⟨y0', y1'⟩ := hrb 0 y rfl
      rw [Nat.zero_mul, Nat.add_zero] at x0' x1' y0' y1'
      have C := Lib.hid (fun (W : World) (h : Fr Nil w W) => And.intro (And.intro ((h.cell (p := ⟨ga, oa, none⟩) hga id).trans x0') ((h.cell (p := ⟨ga, oa + 1, none⟩) hga id).trans x1')) (And.intro ((h.cell (p := ⟨gb, ob, none⟩) hgb id).trans y0') ((h.cell (p := ⟨gb, ob + 1, none⟩) hgb id).trans y1')))
      clear x0' x1' y0' y1'
      have SZ := Lib.hid (And.intro hl1 (And.intro hl2 hl3))
      have CA := Lib.hid hca
      have CB := Lib.hid hcb
      have LS := Lib.hid (fun W => less_any y x W)
      have n1 : (0 : Int) < ((x :: sa).length : Nat) := by simp <;> omega
      have n2 : (0 : Int) < ((y :: sb).length : Nat) := by simp <;> omega
      have n3 : (1 : Int) ≤ ca := by simp at hca; omega
      have n4 : (1 : Int) ≤ cb := by simp at hcb; omega
      have n5 : (1 : Int) ≤ (sa.length : Int) + 1 := by omega
      have n6 : (1 : Int) ≤ (sb.length : Int) + 1 := by omega
      have n7 : (sa.length : Int) + 1 ≤ ca := by simp at hca; omega
      have n8 : (sb.length : Int) + 1 ≤ cb := by simp at hcb; omega
      clear x0 x1 y0 y1 hca hcb hra hrb hga hgb h1 h2 hl1 hl2 hl3 hso he hn hf
      simp only [List.length_cons, Int.natCast_add] at n1 n2
      go_wp2_with fail
      refine wp_region_quiet_fr Nil (by kernel_rfl) (by kernel_rfl) ?_
      repeat (go_big_quiet_step (first
        | (go_at_call 14; with_reducible exact quiet_call (LS.out _))))
      refine wpQuiet_nil ?_
      intro w2 hw'
      obtain ⟨⟨wq, hfq⟩, hw''⟩ := hw'
      subst hw''
      have O2 := Lib.hid (HS.out.fr hfq (fun _ _ h => h))
      have F2 := Lib.hid hfq
      have hB2 : w.heap.size ≤ w2.heap.size := (HF.out.trans hfq).size
      clear q1 q2 q3 q4 lga lgb
      by_cases hxy : y.1 < x.1
      · obtain ⟨⟨_, _⟩, p2, p3⟩ := C.out w2 (HF.out.trans hfq)
        have HM := Lib.hid (merge_left so x y sa sb hxy)
        clear hfq
        go_wp2_with fail
        go_region_held3 (fun w' => w'.cell? ⟨gb, ob, none⟩ = some (.int .i64 y.1) ∧ w'.cell? ⟨gb, ob + 1, none⟩ = some (.int .i64 y.2)) (first | (go_keep; done))
          (first | (rw [if_pos (by rfl)]; refine wp_app (.tmp 30) (.tmp 34) rfl w.heap.size _ _ so [y] rfl (O2.out.alloc _) rfl (one_sl' y rfl) (by have := SZ.out; simp at this ⊢; omega) (by simp; omega) ?_; intro v3 w3 h3 f3 b3 m3; have F3 : Fr Nil w w3 := Fr.then (((HF.out.trans F2.out).drew).alloc _) f3 (fun i hi hlt => by have := (b3 i hi).1; omega); obtain ⟨⟨_, _⟩, z2, z3⟩ := C.out w3 F3))
        generalize (Value.slice (if cb = 1 then some ⟨gb, ob, none⟩ else some ⟨gb, ob + 2, none⟩) sb.length (cb - 1)) = tb at TB ⊢
        have M3 := Lib.hid m3
        clear m3
        go_wp2_with fail
        go_roundw
        case rel => exact ⟨x :: sa, sb, so ++ [y], KA.out, TB.out, h3, by rw [← HM.out]; exact HE.out, by have := SZ.out; simp at this ⊢; omega, by have := SZ.out; simp at this ⊢; omega, by have := SZ.out; simp at this ⊢; omega, fun e => HN.out (M3.out e), F3⟩
        case measure => have h := Sl.lenV TB.out; rw [h]; simp [lenV]
      · obtain ⟨⟨p2, p3⟩, _, _⟩ := C.out w2 (HF.out.trans hfq)
        have HM := Lib.hid (merge_right so x y sa sb hxy)
        clear hfq
        go_wp2_with fail
        go_region_held3 (fun w' => w'.cell? ⟨ga, oa, none⟩ = some (.int .i64 x.1) ∧ w'.cell? ⟨ga, oa + 1, none⟩ = some (.int .i64 x.2)) (first | (go_keep; done))
          (first | (rw [if_pos (by rfl)]; refine wp_app (.tmp 38) (.tmp 42) rfl w.heap.size _ _ so [x] rfl (O2.out.alloc _) rfl (one_sl' x rfl) (by have := SZ.out; simp at this ⊢; omega) (by simp; omega) ?_; intro v3 w3 h3 f3 b3 m3; have F3 : Fr Nil w w3 := Fr.then (((HF.out.trans F2.out).drew).alloc _) f3 (fun i hi hlt => by have := (b3 i hi).1; omega); obtain ⟨⟨z2, z3⟩, _, _⟩ := C.out w3 F3))
        generalize (Value.slice (if ca = 1 then some ⟨ga, oa, none⟩ else some ⟨ga, oa + 2, none⟩) sa.length (ca - 1)) = ta at TA ⊢
        have M3 := Lib.hid m3
        clear m3
        go_wp2_with fail
        go_roundw
        case rel => exact ⟨sa, y :: sb, so ++ [x], TA.out, KB.out, h3, by rw [← HM.out]; exact HE.out, by have := SZ.out; simp at this ⊢; omega, by have := SZ.out; simp at this ⊢; omega, by have := SZ.out; simp at this ⊢; omega, fun e => HN.out (M3.out e), F3⟩
        case measure => have h := Sl.lenV TA.out; rw [h]; simp [lenV]
    · have hres : mrg a b = so ++ sa ++ sb := by
        rw [← HE.out]
        rcases hend with rfl | rfl
        · simp [mrg]
        · simp [mrg_nil]
      obtain ⟨A1, c1, rfl⟩ := Sl.shape hsa
      obtain ⟨B1, d1, rfl⟩ := Sl.shape hsb
      have SZ := Lib.hid (And.intro hl1 (And.intro hl2 hl3))
      have HR := Lib.hid hres
      have hB2 : w.heap.size ≤ wr.heap.size := hf.size
      have hlen : sa = [] ∨ ((0 : Int) < sa.length ∧ sb = []) := by
        rcases hend with rfl | rfl
        · exact Or.inl rfl
        · cases sa with
          | nil => exact Or.inl rfl
          | cons z r => exact Or.inr ⟨by simp <;> omega, rfl⟩
      have AP := Lib.hid (fun (W : World) => trivial)
      clear hres hend hsa hsb hso he hn hf hl1 hl2 hl3 HA HB
      rcases hlen with rfl | ⟨hz, rfl⟩
      all_goals
        go_wp2_with (at_builtin; first
          | (refine wpList_app rfl (.tmp 46) (.tmp 47) rfl w.heap.size _ _ so _ rfl HS.out rfl (Sl.fr KA.out HF.out) (by have := SZ.out; simp at this ⊢; omega) hB2 ?_; intro v3 w3 h3 f3 b3 m3; have F3 : Fr Nil w w3 := Fr.then HF.out f3 (fun i hi hlt => by have := (b3 i hi).1; omega); have hB3 := F3.size)
          | (refine wpList_app rfl (.tmp 48) (.tmp 49) rfl w.heap.size _ _ _ _ rfl h3 rfl (Sl.fr KB.out F3) (by have := SZ.out; simp at this ⊢; omega) hB3 ?_; intro v4 w4 h4 f4 b4 m4; have F4 : Fr Nil w w4 := Fr.then F3 f4 (fun i hi hlt => by have := (b4 i hi).1; omega)))
        go_ret
        exact ⟨_, rfl, F4, by rw [HR.out]; exact h4, fun e => HN.out (m3 (m4 e))⟩
end Go.Proofs.Ytokgeegbeagblaa.SortK
