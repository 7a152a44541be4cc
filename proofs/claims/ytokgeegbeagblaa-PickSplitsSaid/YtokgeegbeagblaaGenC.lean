/- Chapter 8: the walk of merge, with any comparison. -/
import Derived.Test.YtokgeegbeagblaaGenB
namespace Go.Proofs.Ytokgeegbeagblaa.GenC
open Go.RowKit Base SortA SortB SortC SortD SortE SortG SortI SortJ SortK Quiet PickA GenA GenB
set_option linter.unusedVariables false
set_option linter.unusedSimpArgs false

section
variable {F : FuncId} {first : Array Value} {S : Nat → Prop} {J : Nat → World → Prop}
/-- a slice of pairs that lies apart from what the comparison may turn -/
def Slx (S : Nat → Prop) (w : World) (v : Value) (l : List Pr) : Prop := Sl w v l ∧ ∀ g, v.ownBlock = some g → ¬ S g
theorem Slx.fr {w w' : World} {v : Value} {l : List Pr} (h : Slx S w v l) (hf : Fr S w w') : Slx S w' v l := ⟨SortD.Sl.frS h.1 hf h.2, h.2⟩
theorem Slx.nil {w w' : World} {v : Value} {l : List Pr} (h : Slx S w v l) (hf : Fr Nil w w') : Slx S w' v l := ⟨SortB.Sl.fr h.1 hf, h.2⟩
theorem Slx.tail {w : World} {g o cap : Nat} {x : Pr} {l : List Pr} (hc : (x :: l).length ≤ cap) (ha : g < w.heap.size) (hr : Row w g o (x :: l)) (hg : ¬ S g) : Slx S w (.slice (if cap = 1 then some ⟨g, o, none⟩ else some ⟨g, o + 2, none⟩) l.length (cap - 1)) l := by
  refine ⟨tail1 hc ha hr, fun k hk => ?_⟩
  split at hk <;> (simp [Value.ownBlock] at hk; rw [← hk]; exact hg)

set_option maxRecDepth 100000 in
set_option maxHeartbeats 8000000 in
theorem merge_any (L : Ls F first S J) (n : Nat) (a b : List Pr) (va vb : Value) (w : World) (hla : a.length ≤ 1000) (hlb : b.length ≤ 1000) (hn : n ≤ 100000) (hva : Slx S w va a) (hvb : Slx S w vb b) (hJ : J n w) :
    Calls Try.prog 31 #[va, vb, lessG F first] w fun e w' => ∃ u, e = .returned u ∧ Fr S w w' ∧ Own w' w.heap.size u (mrg a b) ∧ u ≠ .slice none 0 0 ∧ Cnt J n (a.length + b.length) w' := by
  unfold lessG
  obtain ⟨A0, c0, rfl⟩ := Sl.shape hva.1
  obtain ⟨B0, d0, rfl⟩ := Sl.shape hvb.1
  have hmk := fun W => make_out (a.length + b.length) (by omega) W
  rw [show ((a.length + b.length : Nat) : Int) = (a.length : Int) + b.length by omega] at hmk
  have HA := Lib.hid hva
  have HB := Lib.hid hvb
  have HL0 := Lib.hid L
  have henters := L.enters
  have HSW := Lib.hid (fun k hk => L.lt n w k hJ hk)
  have HJ := Lib.hid hJ
  clear hva hvb hJ
  go_enter Try.func31, Try.ntmps31
  go_wp2_with fail
  clear hmk
  have O0 : Own (w.alloc (.cells (madeCells (Value.agg #[.int .i64 0, .int .i64 0]).cells ((a.length + b.length) * 2)) 28)) w.heap.size (.slice (some ⟨w.heap.size, 0, none⟩) 0 (a.length + b.length)) [] := World.ownsRow_made _ _ _ (Nat.le_refl _) (by unfold maxLen; omega) (size_madeCells _ _)
  have F0 : Fr Nil w (w.alloc (.cells (madeCells (Value.agg #[.int .i64 0, .int .i64 0]).cells ((a.length + b.length) * 2)) 28)) := by (repeat' (with_reducible first | refine Fr.setCell ?_ (fun hlt => absurd hlt (by dsimp only; omega)) _ | refine Fr.alloc ?_ _ | refine Fr.drewN ?_ _ | refine Fr.drew ?_ | exact Fr.refl _ _))
  go_loopw [0, 1, 7] (fun xa xb xo wr => ∃ sa sb so, Slx S w xa sa ∧ Slx S w xb sb ∧ Own wr w.heap.size xo so ∧ so ++ mrg sa sb = mrg a b ∧ sa.length ≤ 1000 ∧ sb.length ≤ 1000 ∧ so.length + sa.length + sb.length ≤ 2000 ∧ xo ≠ .slice none 0 0 ∧ Fr S w wr ∧ ∃ c, c + sa.length + sb.length = a.length + b.length ∧ Cnt J n c wr) (fun xa xb _ _ => lenV xa + lenV xb)
  case atStart => exact ⟨a, b, [], HA.out, HB.out, by simpa [Value.cells] using O0, by simp, hla, hlb, by simp; omega, by simp, by have := F0.of_nil (S := S); simpa [Value.cells] using this, 0, by omega, by have h := Cnt.zero (HL0.out.nil HJ.out F0); simpa [Value.cells] using h⟩
  case round =>
    clear O0 F0
    obtain ⟨sa, sb, so, hsa, hsb, hso, he, hl1, hl2, hl3, hnn, hf, c, hce, hcn⟩ := hrel
    have LA := Lib.hid (Sl.lenV hsa.1)
    have LB := Lib.hid (Sl.lenV hsb.1)
    have HE := Lib.hid he
    have HS := Lib.hid hso
    have HN := Lib.hid hnn
    have HF := Lib.hid hf
    have KA := Lib.hid hsa
    have KB := Lib.hid hsb
    have HCN := Lib.hid hcn
    have HCE := Lib.hid hce
    have hcase : (sa ≠ [] ∧ sb ≠ []) ∨ (sa = [] ∨ sb = []) := by cases sa <;> cases sb <;> simp
    rcases hcase with ⟨h1, h2⟩ | hend
    · obtain ⟨hsa, hsaS⟩ := hsa
      obtain ⟨hsb, hsbS⟩ := hsb
      rcases hsa with ⟨rfl, rfl⟩ | ⟨ga, oa, ca, rfl, hca, hga, hra⟩
      · exact absurd rfl h1
      rcases hsb with ⟨rfl, rfl⟩ | ⟨gb, ob, cb, rfl, hcb, hgb, hrb⟩
      · exact absurd rfl h2
      obtain ⟨x, sa, rfl⟩ := List.exists_cons_of_ne_nil h1
      obtain ⟨y, sb, rfl⟩ := List.exists_cons_of_ne_nil h2
      have hSa := hsaS ga rfl
      have hSb := hsbS gb rfl
      have TA := Lib.hid (Slx.tail (S := S) hca hga hra hSa)
      have TB := Lib.hid (Slx.tail (S := S) hcb hgb hrb hSb)
      obtain ⟨x0', x1'⟩ := hra 0 x rfl
      obtain ⟨y0', y1'⟩ := hrb 0 y rfl
      rw [Nat.zero_mul, Nat.add_zero] at x0' x1' y0' y1'
      have C := Lib.hid (fun (W : World) (h : Fr S w W) => And.intro (And.intro ((h.cell (p := ⟨ga, oa, none⟩) hga hSa).trans x0') ((h.cell (p := ⟨ga, oa + 1, none⟩) hga hSa).trans x1')) (And.intro ((h.cell (p := ⟨gb, ob, none⟩) hgb hSb).trans y0') ((h.cell (p := ⟨gb, ob + 1, none⟩) hgb hSb).trans y1')))
      clear x0' x1' y0' y1' hsaS hsbS hSa hSb
      obtain ⟨⟨x0, x1⟩, y0, y1⟩ := C.out wr hf
      have SZ := Lib.hid (And.intro hl1 (And.intro hl2 hl3))
      have CA := Lib.hid hca
      have CB := Lib.hid hcb
      have TR := Lib.hid (show n + c ≤ 1000000 by simp at hce; omega)
      have n1 : (0 : Int) < ((x :: sa).length : Nat) := by simp <;> omega
      have n2 : (0 : Int) < ((y :: sb).length : Nat) := by simp <;> omega
      have n3 : (1 : Int) ≤ ca := by simp at hca; omega
      have n4 : (1 : Int) ≤ cb := by simp at hcb; omega
      have n5 : (1 : Int) ≤ (sa.length : Int) + 1 := by omega
      have n6 : (1 : Int) ≤ (sb.length : Int) + 1 := by omega
      have n7 : (sa.length : Int) + 1 ≤ ca := by simp at hca; omega
      have n8 : (sb.length : Int) + 1 ≤ cb := by simp at hcb; omega
      clear hca hcb hra hrb hga hgb h1 h2 hl1 hl2 hl3 hso he hnn hf hce hcn
      simp only [List.length_cons, Int.natCast_add] at n1 n2
      go_wp2_with fail
      go_region_held_law (fun w' => (w'.cell? ⟨ga, oa, none⟩ = some (.int .i64 x.1) ∧ w'.cell? ⟨ga, oa + 1, none⟩ = some (.int .i64 x.2)) ∧ w'.cell? ⟨gb, ob, none⟩ = some (.int .i64 y.1) ∧ w'.cell? ⟨gb, ob + 1, none⟩ = some (.int .i64 y.2)) (first | (go_keep; done) | exact C.out _ (HF.out.drew.trans hf2))
        (first | ((with_reducible refine ((HCN.out.nil HL0.out ((Fr.refl Nil _).drew)).call HL0.out TR.out y x).mono ?_); rintro e w2 ⟨rfl, hf2, hc2⟩))
      clear x0 x1 y0 y1
      have hfq : Fr S wr w2 := (Fr.refl S wr).drew.trans hf2
      have O2 := Lib.hid (HS.out.fr hfq (fun g hg s => by have h1 := (Own.lt HS.out g hg).1; have := HSW.out g s; omega))
      have F2 := Lib.hid hfq
      have HC2 := Lib.hid hc2
      have hB2 : w.heap.size ≤ w2.heap.size := (HF.out.trans hfq).size
      by_cases hxy : y.1 < x.1
      · obtain ⟨⟨_, _⟩, p2, p3⟩ := C.out w2 (HF.out.trans hfq)
        have HM := Lib.hid (merge_left so x y sa sb hxy)
        clear hfq hf2 hc2
        go_wp2_with fail
        go_region_held3 (fun w' => w'.cell? ⟨gb, ob, none⟩ = some (.int .i64 y.1) ∧ w'.cell? ⟨gb, ob + 1, none⟩ = some (.int .i64 y.2)) (first | (go_keep; done))
          (first | (rw [if_pos (by rfl)]; refine wp_app (.tmp 30) (.tmp 34) rfl w.heap.size _ _ so [y] rfl (O2.out.alloc _) rfl (one_sl' y rfl) (by have := SZ.out; simp at this ⊢; omega) (by simp; omega) ?_; intro v3 w3 h3 f3 b3 m3; have F3 : Fr S w w3 := Fr.then (((HF.out.trans F2.out).drew).alloc _) f3 (fun i hi hlt => by have := (b3 i hi).1; omega); have C3 : Cnt J n (c + 1) w3 := (HC2.out.nil HL0.out ((Fr.refl Nil w2).drew.alloc _)).keep HL0.out f3 (fun i hi s => by have h1 := (b3 i hi).1; have := HSW.out i s; omega); obtain ⟨⟨_, _⟩, z2, z3⟩ := C.out w3 F3))
        generalize (Value.slice (if cb = 1 then some ⟨gb, ob, none⟩ else some ⟨gb, ob + 2, none⟩) sb.length (cb - 1)) = tb at TB ⊢
        have M3 := Lib.hid m3
        have HC3 := Lib.hid C3
        clear m3 C3
        go_wp2_with fail
        go_roundw
        case rel => exact ⟨x :: sa, sb, so ++ [y], KA.out, TB.out, h3, by rw [← HM.out]; exact HE.out, by have := SZ.out; simp at this ⊢; omega, by have := SZ.out; simp at this ⊢; omega, by have := SZ.out; simp at this ⊢; omega, fun e => HN.out (M3.out e), F3, c + 1, by have := HCE.out; simp at this ⊢; omega, HC3.out⟩
        case measure => have h := Sl.lenV TB.out.1; rw [h]; simp [lenV]
      · obtain ⟨⟨p2, p3⟩, _, _⟩ := C.out w2 (HF.out.trans hfq)
        have HM := Lib.hid (merge_right so x y sa sb hxy)
        clear hfq hf2 hc2
        go_wp2_with fail
        go_region_held3 (fun w' => w'.cell? ⟨ga, oa, none⟩ = some (.int .i64 x.1) ∧ w'.cell? ⟨ga, oa + 1, none⟩ = some (.int .i64 x.2)) (first | (go_keep; done))
          (first | (rw [if_pos (by rfl)]; refine wp_app (.tmp 38) (.tmp 42) rfl w.heap.size _ _ so [x] rfl (O2.out.alloc _) rfl (one_sl' x rfl) (by have := SZ.out; simp at this ⊢; omega) (by simp; omega) ?_; intro v3 w3 h3 f3 b3 m3; have F3 : Fr S w w3 := Fr.then (((HF.out.trans F2.out).drew).alloc _) f3 (fun i hi hlt => by have := (b3 i hi).1; omega); have C3 : Cnt J n (c + 1) w3 := (HC2.out.nil HL0.out ((Fr.refl Nil w2).drew.alloc _)).keep HL0.out f3 (fun i hi s => by have h1 := (b3 i hi).1; have := HSW.out i s; omega); obtain ⟨⟨z2, z3⟩, _, _⟩ := C.out w3 F3))
        generalize (Value.slice (if ca = 1 then some ⟨ga, oa, none⟩ else some ⟨ga, oa + 2, none⟩) sa.length (ca - 1)) = tb at TA ⊢
        have M3 := Lib.hid m3
        have HC3 := Lib.hid C3
        clear m3 C3
        go_wp2_with fail
        go_roundw
        case rel => exact ⟨sa, y :: sb, so ++ [x], TA.out, KB.out, h3, by rw [← HM.out]; exact HE.out, by have := SZ.out; simp at this ⊢; omega, by have := SZ.out; simp at this ⊢; omega, by have := SZ.out; simp at this ⊢; omega, fun e => HN.out (M3.out e), F3, c + 1, by have := HCE.out; simp at this ⊢; omega, HC3.out⟩
        case measure => have h := Sl.lenV TA.out.1; rw [h]; simp [lenV]
    · have hres : mrg a b = so ++ sa ++ sb := by
        rw [← HE.out]
        rcases hend with rfl | rfl
        · simp [mrg]
        · simp [mrg_nil]
      obtain ⟨A1, c1, rfl⟩ := Sl.shape hsa.1
      obtain ⟨B1, d1, rfl⟩ := Sl.shape hsb.1
      have SZ := Lib.hid (And.intro hl1 (And.intro hl2 hl3))
      have HR := Lib.hid hres
      have hB2 : w.heap.size ≤ wr.heap.size := hf.size
      have KA1 := Lib.hid (KA.out.fr HF.out)
      have KB1 := Lib.hid (KB.out.fr HF.out)
      have hlen : sa = [] ∨ ((0 : Int) < sa.length ∧ sb = []) := by
        rcases hend with rfl | rfl
        · exact Or.inl rfl
        · cases sa with
          | nil => exact Or.inl rfl
          | cons z r => exact Or.inr ⟨by simp <;> omega, rfl⟩
      clear hres hend hsa hsb hso he hnn hf hl1 hl2 hl3 HA HB hcn hce
      rcases hlen with rfl | ⟨hz, rfl⟩
      all_goals
        go_wp2_with (at_builtin; first
          | (refine wpList_app rfl (.tmp 46) (.tmp 47) rfl w.heap.size _ _ so _ rfl HS.out rfl KA1.out.1 (by have := SZ.out; simp at this ⊢; omega) hB2 ?_; intro v3 w3 h3 f3 b3 m3; have F3 : Fr S w w3 := Fr.then HF.out f3 (fun i hi hlt => by have := (b3 i hi).1; omega); have hB3 := F3.size; have C3 := Lib.hid (HCN.out.keep HL0.out f3 (fun i hi s => by have h1 := (b3 i hi).1; have := HSW.out i s; omega)); have KB2 := Lib.hid (SortD.Sl.frS KB.out.1 F3 KB.out.2))
          | (refine wpList_app rfl (.tmp 48) (.tmp 49) rfl w.heap.size _ _ _ _ rfl h3 rfl KB2.out (by have := SZ.out; simp at this ⊢; omega) hB3 ?_; intro v4 w4 h4 f4 b4 m4; have F4 : Fr S w w4 := Fr.then F3 f4 (fun i hi hlt => by have := (b4 i hi).1; omega); have C4 := Lib.hid (C3.out.keep HL0.out f4 (fun i hi s => by have h1 := (b4 i hi).1; have := HSW.out i s; omega))))
        go_ret
        exact ⟨_, rfl, F4, by rw [HR.out]; exact h4, fun e => HN.out (m3 (m4 e)), C4.out.le (by have := HCE.out; omega)⟩
end
end Go.Proofs.Ytokgeegbeagblaa.GenC
