/- Chapter 29: the walk of Encode. -/
import Derived.Test.YtdfggjniemncgaaCodecA
namespace Go.Proofs.Ytdfggjniemncgaa.CodecB
open Go.RowKit Base Slices VintA VintB VintC VintD CodecA Quiet
set_option linter.unusedVariables false
set_option linter.unusedSimpArgs false

def qi (r : Rq) : List Int := [r.k, r.ck, r.p0, r.p1, r.p2, r.s0, r.s1, r.s2, r.qk, r.x1, r.x2, r.y1, r.y2, r.v1, r.v2, r.v3, r.x, r.h]
def num (r : Rq) (o : Nat) : Int := (qi r).getD o 0
def Long (r : Rq) : Prop := ∀ n ∈ qi r, -9223372036854775808 ≤ n ∧ n ≤ 9223372036854775807
def kb (r : Rq) : Int := if r.k = 2 then 16 + r.qk else r.ck
def body (r : Rq) (l : List Nat) : List Int := l.flatMap fun o => vint (fold (num r o))
def encB (r : Rq) : List Int := kb r :: body r (offs r)

theorem qi_cell (r : Rq) {o : Nat} (h : o < 18) : (qc r)[o]? = some (.int .i64 (num r o)) := by
  have h : o = 0 ∨ o = 1 ∨ o = 2 ∨ o = 3 ∨ o = 4 ∨ o = 5 ∨ o = 6 ∨ o = 7 ∨ o = 8 ∨ o = 9 ∨ o = 10 ∨ o = 11 ∨ o = 12 ∨ o = 13 ∨ o = 14 ∨ o = 15 ∨ o = 16 ∨ o = 17 := by omega
  rcases h with rfl | rfl | rfl | rfl | rfl | rfl | rfl | rfl | rfl | rfl | rfl | rfl | rfl | rfl | rfl | rfl | rfl | rfl <;> rfl
theorem num_long {r : Rq} (h : Long r) (o : Nat) : -9223372036854775808 ≤ num r o ∧ num r o ≤ 9223372036854775807 := by
  unfold num
  rw [List.getD_eq_getElem?_getD]
  cases he : (qi r)[o]? with
  | none => simp
  | some x => exact h x (List.mem_of_getElem? he)
theorem offs_lt (r : Rq) : ∀ o ∈ offs r, o < 18 := by
  intro o ho
  unfold offs at ho
  repeat' split at ho
  all_goals (simp at ho; omega)
theorem offs_len (r : Rq) : 1 ≤ (offs r).length ∧ (offs r).length ≤ 4 := by
  unfold offs
  repeat' split
  all_goals decide
theorem body_len {r : Rq} (h : Long r) (l : List Nat) : (body r l).length ≤ 10 * l.length := by
  induction l with
  | nil => simp [body]
  | cons o l ih =>
    have := vint_len10 (fold_lt (num_long h o).1 (num_long h o).2)
    unfold body at ih ⊢
    rw [List.flatMap_cons, List.length_append, List.length_cons]
    omega
theorem body_snoc (r : Rq) (l : List Nat) (o : Nat) : body r (l ++ [o]) = body r l ++ vint (fold (num r o)) := by simp [body]
theorem ptrs_at {g : Nat} {l : List Nat} {i o : Nat} (h : l[i]? = some o) : (ptrs g l)[i]? = some (.pointer (some ⟨g, o, none⟩)) := by
  simp [ptrs, h]

section
variable (w : World)
set_option maxRecDepth 100000 in
set_option maxHeartbeats 1000000 in
theorem Encode_ok (r : Rq) (hg : GoodQ r) (hl : Long r) : Calls Try.prog 15 #[qv r] w fun e w' => ∃ u, e = .returned (.tuple #[u, .int .i64 0]) ∧ Fr Nil w w' ∧ Own EB w' w.heap.size u (encB r) := by
  have HB : Hid (Bk (w.alloc (.cells #[.int .i64 r.k, .int .i64 r.ck, .int .i64 r.p0, .int .i64 r.p1, .int .i64 r.p2, .int .i64 r.s0, .int .i64 r.s1, .int .i64 r.s2, .int .i64 r.qk, .int .i64 r.x1, .int .i64 r.x2, .int .i64 r.y1, .int .i64 r.y2, .int .i64 r.v1, .int .i64 r.v2, .int .i64 r.v3, .int .i64 r.x, .int .i64 r.h] 36)) w.heap.size 36 (qc r)) := Lib.hid (Bk.new w 36 (qc r))
  have G0 := Lib.hid ((Fr.refl Nil w).alloc (.cells #[.int .i64 r.k, .int .i64 r.ck, .int .i64 r.p0, .int .i64 r.p1, .int .i64 r.p2, .int .i64 r.s0, .int .i64 r.s1, .int .i64 r.s2, .int .i64 r.qk, .int .i64 r.x1, .int .i64 r.x2, .int .i64 r.y1, .int .i64 r.y2, .int .i64 r.v1, .int .i64 r.v2, .int .i64 r.v3, .int .i64 r.x, .int .i64 r.h] 36))
  have K1 : Hid (Calls Try.prog 26 #[.agg #[.int .i64 r.k, .int .i64 r.ck, .int .i64 r.p0, .int .i64 r.p1, .int .i64 r.p2, .int .i64 r.s0, .int .i64 r.s1, .int .i64 r.s2, .int .i64 r.qk, .int .i64 r.x1, .int .i64 r.x2, .int .i64 r.y1, .int .i64 r.y2, .int .i64 r.v1, .int .i64 r.v2, .int .i64 r.v3, .int .i64 r.x, .int .i64 r.h]] (w.alloc (.cells #[.int .i64 r.k, .int .i64 r.ck, .int .i64 r.p0, .int .i64 r.p1, .int .i64 r.p2, .int .i64 r.s0, .int .i64 r.s1, .int .i64 r.s2, .int .i64 r.qk, .int .i64 r.x1, .int .i64 r.x2, .int .i64 r.y1, .int .i64 r.y2, .int .i64 r.v1, .int .i64 r.v2, .int .i64 r.v3, .int .i64 r.x, .int .i64 r.h] 36)) fun e w' => Tells (GoodQ r) e ∧ Fr Nil (w.alloc (.cells #[.int .i64 r.k, .int .i64 r.ck, .int .i64 r.p0, .int .i64 r.p1, .int .i64 r.p2, .int .i64 r.s0, .int .i64 r.s1, .int .i64 r.s2, .int .i64 r.qk, .int .i64 r.x1, .int .i64 r.x2, .int .i64 r.y1, .int .i64 r.y2, .int .i64 r.v1, .int .i64 r.v2, .int .i64 r.v3, .int .i64 r.x, .int .i64 r.h] 36)) w') := Lib.hid (good_any (w.alloc (.cells (qc r) 36)) r)
  have K2 := Lib.hid (fun W (h : Bk W w.heap.size 36 (qc r)) => fields_any W r hg h)
  have KP := Lib.hid (fun o (l : List Int) (h : l.length ≤ 100000) W v (hv : Own EB W w.heap.size v l) (hw : w.heap.size ≤ W.heap.size) => put_any w.heap.size l (num r o) v W (num_long hl o).1 (num_long hl o).2 h hv hw)
  have HG := Lib.hid hg
  have HL := Lib.hid hl
  have hb0 : 0 ≤ kb r ∧ kb r ≤ 255 := by unfold kb; unfold GoodQ at hg; split <;> omega
  have HK := Lib.hid (show kb r % 256 = kb r by omega)
  have HO := Lib.hid (offs_lt r)
  have hn := Lib.hid (offs_len r)
  have HE := Lib.hid (show encB r = kb r :: body r (offs r) from rfl)
  generalize hos : offs r = os at *
  generalize hn' : os.length = n at *
  have hk : (r.k = 1 ∧ kb r = r.ck) ∨ (r.k = 2 ∧ kb r = 16 + r.qk) := by
    unfold GoodQ at hg
    unfold kb
    split <;> omega
  have HM := Lib.hid hb0
  clear hg hl hb0
  show Calls Try.prog 15 #[.agg #[.int .i64 r.k, .int .i64 r.ck, .int .i64 r.p0, .int .i64 r.p1, .int .i64 r.p2, .int .i64 r.s0, .int .i64 r.s1, .int .i64 r.s2, .int .i64 r.qk, .int .i64 r.x1, .int .i64 r.x2, .int .i64 r.y1, .int .i64 r.y2, .int .i64 r.v1, .int .i64 r.v2, .int .i64 r.v3, .int .i64 r.x, .int .i64 r.h]] w _
  rcases hk with ⟨hk, hb⟩ | ⟨hk, hb⟩
  · have hb' := Lib.hid hb
    have hkk := Lib.hid hk
    clear hk hb
    go_enter Try.func15, Try.ntmps15
    go_wp2_with fail
    refine K1.out.mono ?_
    rintro e w1 ⟨⟨b, rfl, hb2⟩, hf1⟩
    obtain rfl : b = true := hb2.2 HG.out
    have HB1 := Lib.hid (HB.out.fr hf1 id)
    have c1 : w1.cell? ⟨w.heap.size, 1, none⟩ = some (.int .i64 r.ck) := HB1.out.cell 1
    have c0 : ∀ o, (w1.alloc o).cell? ⟨w.heap.size, 0, none⟩ = some (.int .i64 1) := fun o => by rw [← hkk.out]; exact (HB1.out.alloc o).cell 0
    have c8 : ∀ o, (w1.alloc o).cell? ⟨w.heap.size, 8, none⟩ = some (.int .i64 r.qk) := fun o => (HB1.out.alloc o).cell 8
    have HF1 := Lib.hid (G0.out.trans hf1)
    have hs1 : w.heap.size + 1 ≤ w1.heap.size := by have := hf1.size; simp at this; omega
    have HW1 := Lib.hid HF1.out.size
    clear hb2 hf1 HB K1 G0
    generalize Value.agg #[.int .i64 r.k, .int .i64 r.ck, .int .i64 r.p0, .int .i64 r.p1, .int .i64 r.p2, .int .i64 r.s0, .int .i64 r.s1, .int .i64 r.s2, .int .i64 r.qk, .int .i64 r.x1, .int .i64 r.x2, .int .i64 r.y1, .int .i64 r.y2, .int .i64 r.v1, .int .i64 r.v2, .int .i64 r.v3, .int .i64 r.x, .int .i64 r.h] = q0
    go_wp2_with fail
    refine Calls.mono (K2.out _ ?_) ?_
    · exact HB1.out.alloc _
    rintro e w2 ⟨b, rfl, hb2, hf2, hs2⟩
    have HB2 := Lib.hid (Bk.fr (S := Nil) (HB1.out.alloc _) hf2 id)
    have HP2 := Lib.hid hb2
    have HS2 := Lib.hid hs2
    have HF2 := Lib.hid (Fr.trans (b := _) (by repeat first | exact HF1.out | apply Fr.alloc) hf2)
    have HOW := Lib.hid (Own.fr (S := Nil) (show Own EB _ w.heap.size (.slice (some ⟨w1.heap.size, 0, none⟩) 1 1) [kb r] from (by exact Own.lit EB_ok (w := w1) [kb r] (by rw [show r.ck % 256 = kb r by rw [← hb'.out]; exact HK.out]; rfl) (by omega) (by show 1 ≤ maxLen; decide) rfl)) hf2 (fun _ _ h => h))
    clear hb2 hf2 hs2 K2
    go_wp2_with fail
    go_loopw [4, 26] (fun v4 i wr => ∃ k : Nat, k ≤ n ∧ i = .int .i64 k ∧ Own EB wr w.heap.size v4 (kb r :: body r (os.take k)) ∧ Bk wr w.heap.size 36 (qc r) ∧ Bk wr b 62 (ptrs w.heap.size os) ∧ (∀ g, v4.ownBlock = some g → g ≠ w.heap.size ∧ g ≠ b) ∧ Fr Nil w wr) (fun _ i _ => n - (intOf i).toNat)
    case atStart => exact ⟨0, by omega, rfl, HOW.out, HB2.out, HP2.out, by intro g hg; simp [Value.ownBlock] at hg; subst hg; have := HS2.out; simp at this; omega, HF2.out⟩
    case round =>
      obtain ⟨k, hk, rfl, ho, hbr, hbp, hne, hf⟩ := hrel
      have HO1 := Lib.hid ho
      have HBr := Lib.hid hbr
      have HBp := Lib.hid hbp
      have HN := Lib.hid hne
      have HF := Lib.hid hf
      by_cases hlt : k < n
      · obtain ⟨o, ho'⟩ : ∃ o, os[k]? = some o := ⟨os[k], List.getElem?_eq_getElem (by omega)⟩
        have HT := Lib.hid (show body r (os.take (k + 1)) = body r (os.take k) ++ vint (fold (num r o)) by
          obtain ⟨h1, h2⟩ := List.getElem?_eq_some_iff.1 ho'
          rw [List.take_succ_eq_append_getElem h1, h2, body_snoc])
        have hp : wr.cell? ⟨b, k, none⟩ = some (.pointer (some ⟨w.heap.size, o, none⟩)) := by
          rw [hbp.cell]
          exact ptrs_at ho'
        have hc : wr.cell? ⟨w.heap.size, o, none⟩ = some (.int .i64 (num r o)) := by
          rw [hbr.cell]
          exact qi_cell r (HO.out o (List.mem_of_getElem? ho'))
        have hlt' : (k : Int) < n := by omega
        have hk9 : (k : Int) ≤ 4 := by have := hn.out; omega
        have hl1 : (kb r :: body r (os.take k)).length ≤ 100000 := by
          have := body_len HL.out (os.take k)
          rw [List.length_take] at this
          have := hn.out
          simp
          omega
        have HQ := Lib.hid (KP.out o _ hl1 wr u4 HO1.out HF.out.size)
        clear ho hbr hbp hne hf
        go_wp2_with fail
        refine HQ.out.mono ?_
        rintro e w3 ⟨u, rfl, hx, ho3⟩
        have HX := Lib.hid hx
        have HO3 := Lib.hid (show Own EB w3 w.heap.size u (kb r :: body r (os.take (k + 1))) by rw [HT.out]; exact ho3)
        clear hx ho3 HQ
        go_wp2_with fail
        go_roundw
        case rel => exact ⟨k + 1, by omega, by go_num, HO3.out, HBr.out.fr HX.out.1 (fun h => (HN.out _ h).1 rfl), HBp.out.fr HX.out.1 (fun h => (HN.out _ h).2 rfl), fun g hg => (HX.out.2 g hg).elim (fun h => HN.out g h) (fun h => ⟨by have := HBr.out.lt; omega, by have := HBp.out.lt; omega⟩), HF.out.then HX.out.1 (fun i hi hlt => absurd (HO1.out.lt i hi).1 (by omega))⟩
        case measure => simp [intOf]; omega
      · obtain rfl : k = n := by omega
        have HZ := Lib.hid (show Own EB wr w.heap.size u4 (encB r) by rw [HE.out]; rwa [List.take_of_length_le (by omega)] at ho)
        clear ho hbr hbp hne hf
        go_wp2_with fail
        exact bodyPost_ret (v := .tuple #[u4, .int .i64 0]) (by simp [results, Try.results15, go_sem]) rfl ⟨_, rfl, HF.out, HZ.out⟩
  · have hb' := Lib.hid hb
    have hkk := Lib.hid hk
    clear hk hb
    go_enter Try.func15, Try.ntmps15
    go_wp2_with fail
    refine K1.out.mono ?_
    rintro e w1 ⟨⟨b, rfl, hb2⟩, hf1⟩
    obtain rfl : b = true := hb2.2 HG.out
    have HB1 := Lib.hid (HB.out.fr hf1 id)
    have c1 : w1.cell? ⟨w.heap.size, 1, none⟩ = some (.int .i64 r.ck) := HB1.out.cell 1
    have c0 : ∀ o, (w1.alloc o).cell? ⟨w.heap.size, 0, none⟩ = some (.int .i64 2) := fun o => by rw [← hkk.out]; exact (HB1.out.alloc o).cell 0
    have c8 : ∀ o, (w1.alloc o).cell? ⟨w.heap.size, 8, none⟩ = some (.int .i64 r.qk) := fun o => (HB1.out.alloc o).cell 8
    have HF1 := Lib.hid (G0.out.trans hf1)
    have hs1 : w.heap.size + 1 ≤ w1.heap.size := by have := hf1.size; simp at this; omega
    have HW1 := Lib.hid HF1.out.size
    clear hb2 hf1 HB K1 G0
    generalize Value.agg #[.int .i64 r.k, .int .i64 r.ck, .int .i64 r.p0, .int .i64 r.p1, .int .i64 r.p2, .int .i64 r.s0, .int .i64 r.s1, .int .i64 r.s2, .int .i64 r.qk, .int .i64 r.x1, .int .i64 r.x2, .int .i64 r.y1, .int .i64 r.y2, .int .i64 r.v1, .int .i64 r.v2, .int .i64 r.v3, .int .i64 r.x, .int .i64 r.h] = q0
    go_wp2_with fail
    refine Calls.mono (K2.out _ ?_) ?_
    · exact (HB1.out.alloc _).alloc _
    rintro e w2 ⟨b, rfl, hb2, hf2, hs2⟩
    have HB2 := Lib.hid (Bk.fr (S := Nil) ((HB1.out.alloc _).alloc _) hf2 id)
    have HP2 := Lib.hid hb2
    have HS2 := Lib.hid hs2
    have HF2 := Lib.hid (Fr.trans (b := _) (by repeat first | exact HF1.out | apply Fr.alloc) hf2)
    have HOW := Lib.hid (Own.fr (S := Nil) (show Own EB _ w.heap.size (.slice (some ⟨w1.heap.size + 1, 0, none⟩) 1 1) [kb r] from (by exact Own.lit EB_ok (w := w1.alloc _) [kb r] (by rw [show wrap64 (16 + r.qk) % 256 = kb r by rw [show wrap64 (16 + r.qk) = 16 + r.qk by have := HM.out; rw [hb'.out] at this; unfold wrap64; omega, ← hb'.out]; exact HK.out]; rfl) (by simp; omega) (by show 1 ≤ maxLen; decide) (by simp))) hf2 (fun _ _ h => h))
    clear hb2 hf2 hs2 K2
    go_wp2_with fail
    go_loopw [4, 26] (fun v4 i wr => ∃ k : Nat, k ≤ n ∧ i = .int .i64 k ∧ Own EB wr w.heap.size v4 (kb r :: body r (os.take k)) ∧ Bk wr w.heap.size 36 (qc r) ∧ Bk wr b 62 (ptrs w.heap.size os) ∧ (∀ g, v4.ownBlock = some g → g ≠ w.heap.size ∧ g ≠ b) ∧ Fr Nil w wr) (fun _ i _ => n - (intOf i).toNat)
    case atStart => exact ⟨0, by omega, rfl, HOW.out, HB2.out, HP2.out, by intro g hg; simp [Value.ownBlock] at hg; subst hg; have := HS2.out; simp at this; omega, HF2.out⟩
    case round =>
      obtain ⟨k, hk, rfl, ho, hbr, hbp, hne, hf⟩ := hrel
      have HO1 := Lib.hid ho
      have HBr := Lib.hid hbr
      have HBp := Lib.hid hbp
      have HN := Lib.hid hne
      have HF := Lib.hid hf
      by_cases hlt : k < n
      · obtain ⟨o, ho'⟩ : ∃ o, os[k]? = some o := ⟨os[k], List.getElem?_eq_getElem (by omega)⟩
        have HT := Lib.hid (show body r (os.take (k + 1)) = body r (os.take k) ++ vint (fold (num r o)) by
          obtain ⟨h1, h2⟩ := List.getElem?_eq_some_iff.1 ho'
          rw [List.take_succ_eq_append_getElem h1, h2, body_snoc])
        have hp : wr.cell? ⟨b, k, none⟩ = some (.pointer (some ⟨w.heap.size, o, none⟩)) := by
          rw [hbp.cell]
          exact ptrs_at ho'
        have hc : wr.cell? ⟨w.heap.size, o, none⟩ = some (.int .i64 (num r o)) := by
          rw [hbr.cell]
          exact qi_cell r (HO.out o (List.mem_of_getElem? ho'))
        have hlt' : (k : Int) < n := by omega
        have hk9 : (k : Int) ≤ 4 := by have := hn.out; omega
        have hl1 : (kb r :: body r (os.take k)).length ≤ 100000 := by
          have := body_len HL.out (os.take k)
          rw [List.length_take] at this
          have := hn.out
          simp
          omega
        have HQ := Lib.hid (KP.out o _ hl1 wr u4 HO1.out HF.out.size)
        clear ho hbr hbp hne hf
        go_wp2_with fail
        refine HQ.out.mono ?_
        rintro e w3 ⟨u, rfl, hx, ho3⟩
        have HX := Lib.hid hx
        have HO3 := Lib.hid (show Own EB w3 w.heap.size u (kb r :: body r (os.take (k + 1))) by rw [HT.out]; exact ho3)
        clear hx ho3 HQ
        go_wp2_with fail
        go_roundw
        case rel => exact ⟨k + 1, by omega, by go_num, HO3.out, HBr.out.fr HX.out.1 (fun h => (HN.out _ h).1 rfl), HBp.out.fr HX.out.1 (fun h => (HN.out _ h).2 rfl), fun g hg => (HX.out.2 g hg).elim (fun h => HN.out g h) (fun h => ⟨by have := HBr.out.lt; omega, by have := HBp.out.lt; omega⟩), HF.out.then HX.out.1 (fun i hi hlt => absurd (HO1.out.lt i hi).1 (by omega))⟩
        case measure => simp [intOf]; omega
      · obtain rfl : k = n := by omega
        have HZ := Lib.hid (show Own EB wr w.heap.size u4 (encB r) by rw [HE.out]; rwa [List.take_of_length_le (by omega)] at ho)
        clear ho hbr hbp hne hf
        go_wp2_with fail
        exact bodyPost_ret (v := .tuple #[u4, .int .i64 0]) (by simp [results, Try.results15, go_sem]) rfl ⟨_, rfl, HF.out, HZ.out⟩
set_option maxRecDepth 100000 in
theorem Encode_bad (r : Rq) (hg : ¬ GoodQ r) : Calls Try.prog 15 #[qv r] w fun e w' => e = .returned (.tuple #[.slice none 0 0, .int .i64 8]) ∧ Fr Nil w w' := by
  have G0 := Lib.hid ((Fr.refl Nil w).alloc (.cells #[.int .i64 r.k, .int .i64 r.ck, .int .i64 r.p0, .int .i64 r.p1, .int .i64 r.p2, .int .i64 r.s0, .int .i64 r.s1, .int .i64 r.s2, .int .i64 r.qk, .int .i64 r.x1, .int .i64 r.x2, .int .i64 r.y1, .int .i64 r.y2, .int .i64 r.v1, .int .i64 r.v2, .int .i64 r.v3, .int .i64 r.x, .int .i64 r.h] 36))
  have K1 : Hid (Calls Try.prog 26 #[.agg #[.int .i64 r.k, .int .i64 r.ck, .int .i64 r.p0, .int .i64 r.p1, .int .i64 r.p2, .int .i64 r.s0, .int .i64 r.s1, .int .i64 r.s2, .int .i64 r.qk, .int .i64 r.x1, .int .i64 r.x2, .int .i64 r.y1, .int .i64 r.y2, .int .i64 r.v1, .int .i64 r.v2, .int .i64 r.v3, .int .i64 r.x, .int .i64 r.h]] (w.alloc (.cells #[.int .i64 r.k, .int .i64 r.ck, .int .i64 r.p0, .int .i64 r.p1, .int .i64 r.p2, .int .i64 r.s0, .int .i64 r.s1, .int .i64 r.s2, .int .i64 r.qk, .int .i64 r.x1, .int .i64 r.x2, .int .i64 r.y1, .int .i64 r.y2, .int .i64 r.v1, .int .i64 r.v2, .int .i64 r.v3, .int .i64 r.x, .int .i64 r.h] 36)) fun e w' => Tells (GoodQ r) e ∧ Fr Nil (w.alloc (.cells #[.int .i64 r.k, .int .i64 r.ck, .int .i64 r.p0, .int .i64 r.p1, .int .i64 r.p2, .int .i64 r.s0, .int .i64 r.s1, .int .i64 r.s2, .int .i64 r.qk, .int .i64 r.x1, .int .i64 r.x2, .int .i64 r.y1, .int .i64 r.y2, .int .i64 r.v1, .int .i64 r.v2, .int .i64 r.v3, .int .i64 r.x, .int .i64 r.h] 36)) w') := Lib.hid (good_any (w.alloc (.cells (qc r) 36)) r)
  have HG := Lib.hid hg
  clear hg
  show Calls Try.prog 15 #[.agg #[.int .i64 r.k, .int .i64 r.ck, .int .i64 r.p0, .int .i64 r.p1, .int .i64 r.p2, .int .i64 r.s0, .int .i64 r.s1, .int .i64 r.s2, .int .i64 r.qk, .int .i64 r.x1, .int .i64 r.x2, .int .i64 r.y1, .int .i64 r.y2, .int .i64 r.v1, .int .i64 r.v2, .int .i64 r.v3, .int .i64 r.x, .int .i64 r.h]] w _
  go_enter Try.func15, Try.ntmps15
  go_wp2_with fail
  refine K1.out.mono ?_
  rintro e w1 ⟨⟨b, rfl, hb⟩, hf1⟩
  obtain rfl : b = false := by
    cases b with
    | false => rfl
    | true => exact absurd (hb.1 rfl) HG.out
  have HF := Lib.hid hf1
  clear hb hf1
  go_wp2_with fail
  exact bodyPost_ret (v := .tuple #[.slice none 0 0, .int .i64 8]) (by simp [results, Try.results15, go_sem]) rfl ⟨rfl, G0.out.trans HF.out⟩
end
end Go.Proofs.Ytdfggjniemncgaa.CodecB
