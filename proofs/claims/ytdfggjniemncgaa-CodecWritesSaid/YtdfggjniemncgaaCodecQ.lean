/- Chapter 29: the walk of ref.Encode. -/
import Derived.Test.YtdfggjniemncgaaCodecM
namespace Go.Proofs.Ytdfggjniemncgaa.CodecQ
open Go.RowKit Base Big Slices VintA VintB VintC VintD CodecA CodecB CodecC CodecM Quiet
set_option linter.unusedVariables false
set_option linter.unusedSimpArgs false

theorem sl_row {w : World} {g o n c : Nat} {l : List Int} (h : Sl EI w (.slice (some ⟨g, o, none⟩) n c) l) : Row EI w g o l := by
  rcases h with ⟨h, _⟩ | ⟨g', o', cap, h, _, _, hr⟩
  · cases h
  · cases h; exact hr
theorem cell_i {w : World} {g o i : Nat} {l : List Int} {x : Int} (h : Row EI w g o l) (hx : l[i]? = some x) : w.cell? ⟨g, o + i, none⟩ = some (.int .i64 x) := by
  have := h.at EI_ok hx (j := 0) (u := .int .i64 x) rfl
  simpa [EI] using this

section
variable (w : World)
set_option maxRecDepth 100000 in
set_option maxHeartbeats 1000000 in
theorem refenc_any (r : Rq) (hg : GoodQ r) (hl : Long r) : Calls Try.prog 9 #[.agg (qc r)] w fun e w' => ∃ u, e = .returned u ∧ Fr Nil w w' ∧ Own EB w' w.heap.size u (encB r) := by
  have HB : Hid (Bk (w.alloc (.cells (qc r) 36)) w.heap.size 36 (qc r)) := Lib.hid (Bk.new w 36 (qc r))
  have G0 := Lib.hid ((Fr.refl Nil w).alloc (.cells (qc r) 36))
  have KN := Lib.hid (fun W => numbers_cut W r hg)
  have KP := Lib.hid (fun o (l : List Int) (h : l.length ≤ 100000) W v (hv : Own EB W w.heap.size v l) (hw : w.heap.size ≤ W.heap.size) => ref_loop w.heap.size l (num r o) v W (num_long hl o).1 (num_long hl o).2 h hv hw)
  have HL := Lib.hid hl
  have hb0 : 0 ≤ kb r ∧ kb r ≤ 255 := by unfold kb; unfold GoodQ at hg; split <;> omega
  have HK := Lib.hid (show kb r % 256 = kb r by omega)
  have hn := Lib.hid (CodecB.offs_len r)
  have HE := Lib.hid (show encB r = kb r :: body r (offs r) from rfl)
  generalize hos : offs r = os at *
  generalize hn' : os.length = n at *
  have HLen := Lib.hid (show (os.map (num r)).length = n by rw [List.length_map, hn'])
  have HOn := Lib.hid hn'
  have hk : (r.k = 1 ∧ kb r = r.ck) ∨ (r.k = 2 ∧ kb r = 16 + r.qk) := by
    unfold GoodQ at hg
    unfold kb
    split <;> omega
  have HM := Lib.hid hb0
  have c1 : (w.alloc (.cells (qc r) 36)).cell? ⟨w.heap.size, 1, none⟩ = some (.int .i64 r.ck) := HB.out.cell 1
  have c8 : ∀ o, ((w.alloc (.cells (qc r) 36)).alloc o).cell? ⟨w.heap.size, 8, none⟩ = some (.int .i64 r.qk) := fun o => (HB.out.alloc o).cell 8
  clear hg hl hb0
  rcases hk with ⟨hk, hb⟩ | ⟨hk, hb⟩
  · have hb' := Lib.hid hb
    have hkk := Lib.hid hk
    have c0 : ∀ o, ((w.alloc (.cells (qc r) 36)).alloc o).cell? ⟨w.heap.size, 0, none⟩ = some (.int .i64 1) := fun o => by rw [← hkk.out]; exact (HB.out.alloc o).cell 0
    clear hk hb
    go_enter Try.func9, Try.ntmps9
    have HBx := Lib.hid (show Bk ((w.alloc (.cells (qc r) 36)).alloc (.cells #[.int .u8 (r.ck % 256)] 5)) w.heap.size 36 (qc r) from HB.out.alloc _)
    have HFx := Lib.hid (show Fr Nil w ((w.alloc (.cells (qc r) 36)).alloc (.cells #[.int .u8 (r.ck % 256)] 5)) by repeat first | exact G0.out | apply Fr.alloc)
    have HOx := Lib.hid (show Own EB ((w.alloc (.cells (qc r) 36)).alloc (.cells #[.int .u8 (r.ck % 256)] 5)) w.heap.size (.slice (some ⟨(w.heap.size + 1), 0, none⟩) 1 1) [kb r] from (Own.lit EB_ok (w := (w.alloc (.cells (qc r) 36))) [kb r] (by rw [show r.ck % 256 = kb r by rw [← hb'.out]; exact HK.out]; rfl) (by simp) (by show 1 ≤ maxLen; decide) (by simp)))
    go_wp2_with (first
      | (with_reducible refine wpList_loadQ (dst := some 20) ?_ HBx.out ?_); rfl)
    refine (KN.out _).mono ?_
    rintro e w3 ⟨u4, rfl, hs3, hnew, hf3⟩
    have hsh : ∃ g4 o4 c4, u4 = .slice (some ⟨g4, o4, none⟩) n c4 ∧ g4 < w3.heap.size := by
      rcases hs3 with ⟨_, h⟩ | ⟨g4, o4, c4, h, _, ha, _⟩
      · have h0 := congrArg List.length h
        rw [HLen.out, List.length_nil] at h0
        have := hn.out
        omega
      · exact ⟨g4, o4, c4, by rw [h, HLen.out], ha⟩
    obtain ⟨g4, o4, c4, hu4, hg4⟩ := hsh
    subst hu4
    have HS3 := Lib.hid hs3
    have HF3 := Lib.hid (HFx.out.trans hf3)
    have HO3 := Lib.hid (Own.fr (S := Nil) HOx.out hf3 (fun _ _ h => h))
    have HN3 := Lib.hid (show (w.heap.size + 1) ≠ g4 by have h1 := hnew g4 rfl; have h2 := (HOx.out.lt (w.heap.size + 1) rfl).2; omega)
    have HG4 := Lib.hid (show g4 < w3.heap.size from hg4)
    clear hs3 hnew hf3 hg4 c0 c1 c8
    go_wp2_with fail
    go_loopw [3, 5] (fun v3 i wr => ∃ k : Nat, k ≤ n ∧ i = .int .i64 k ∧ Own EB wr w.heap.size v3 (kb r :: body r (os.take k)) ∧ Sl EI wr (.slice (some ⟨g4, o4, none⟩) n c4) (os.map (num r)) ∧ (∀ g, v3.ownBlock = some g → g ≠ g4) ∧ g4 < wr.heap.size ∧ Fr Nil w wr) (fun _ i _ => n - (intOf i).toNat)
    case atStart => exact ⟨0, by omega, rfl, HO3.out, HS3.out, fun g hg => by simp [Value.ownBlock] at hg; have := HN3.out; omega, HG4.out, HF3.out⟩
    case round =>
      obtain ⟨k, hk, rfl, ho, hsl, hne, hglt, hf⟩ := hrel
      have HO1 := Lib.hid ho
      have HS := Lib.hid hsl
      have HN := Lib.hid hne
      have HGl := Lib.hid hglt
      have HF := Lib.hid hf
      by_cases hlt : k < n
      · have hkos : k < os.length := by have := HOn.out; omega
        obtain ⟨o, ho'⟩ : ∃ o, os[k]? = some o := ⟨os[k], List.getElem?_eq_getElem hkos⟩
        have HT := Lib.hid (show body r (os.take (k + 1)) = body r (os.take k) ++ vint (fold (num r o)) by
          obtain ⟨h1, h2⟩ := List.getElem?_eq_some_iff.1 ho'
          rw [List.take_succ_eq_append_getElem h1, h2, body_snoc])
        have hc : wr.cell? ⟨g4, o4 + k, none⟩ = some (.int .i64 (num r o)) := cell_i (sl_row hsl) (by rw [List.getElem?_map, ho']; rfl)
        have hlt' : (k : Int) < n := by omega
        have hk9 : (k : Int) ≤ 4 := by have := hn.out; omega
        have hl1 : (kb r :: body r (os.take k)).length ≤ 100000 := by
          have := body_len HL.out (os.take k)
          rw [List.length_take] at this
          have := hn.out
          simp
          omega
        have HQ := Lib.hid (KP.out o _ hl1 wr u3 HO1.out HF.out.size)
        clear ho hsl hne hf hglt ho' hkos
        go_wp2_with fail
        refine HQ.out.mono ?_
        rintro e w5 ⟨u, rfl, hx, ho3⟩
        have HX := Lib.hid hx
        have HO5 := Lib.hid (show Own EB w5 w.heap.size u (kb r :: body r (os.take (k + 1))) by rw [HT.out]; exact ho3)
        clear hx ho3 HQ
        go_wp2_with fail
        go_roundw
        case rel =>
          have h1 := HX.out.1
          refine ⟨k + 1, by omega, by go_num, HO5.out, HS.out.frS h1 (fun g hg hs => by simp [Value.ownBlock] at hg; exact HN.out g hs hg.symm), fun g hg => ?_, Nat.lt_of_lt_of_le HGl.out h1.size, HF.out.then h1 (fun i hi hlt => absurd (HO1.out.lt i hi).1 (by omega))⟩
          rcases HX.out.2 g hg with h | h
          · exact HN.out g h
          · have := HGl.out; omega
        case measure => simp [intOf]; omega
      · obtain rfl : k = n := by omega
        have HZ := Lib.hid (show Own EB wr w.heap.size u3 (encB r) by rw [HE.out]; rwa [List.take_of_length_le (by have := HOn.out; omega)] at ho)
        clear ho hsl hne hf hglt
        go_wp2_with fail
        go_ret
        exact ⟨_, rfl, HF.out, HZ.out⟩
  · have hb' := Lib.hid hb
    have hkk := Lib.hid hk
    have c0 : ∀ o, ((w.alloc (.cells (qc r) 36)).alloc o).cell? ⟨w.heap.size, 0, none⟩ = some (.int .i64 2) := fun o => by rw [← hkk.out]; exact (HB.out.alloc o).cell 0
    clear hk hb
    go_enter Try.func9, Try.ntmps9
    have HBx := Lib.hid (show Bk (((w.alloc (.cells (qc r) 36)).alloc (.cells #[.int .u8 (r.ck % 256)] 5)).alloc (.cells #[.int .u8 (wrap64 (16 + r.qk) % 256)] 5)) w.heap.size 36 (qc r) from (HB.out.alloc _).alloc _)
    have HFx := Lib.hid (show Fr Nil w (((w.alloc (.cells (qc r) 36)).alloc (.cells #[.int .u8 (r.ck % 256)] 5)).alloc (.cells #[.int .u8 (wrap64 (16 + r.qk) % 256)] 5)) by repeat first | exact G0.out | apply Fr.alloc)
    have HOx := Lib.hid (show Own EB (((w.alloc (.cells (qc r) 36)).alloc (.cells #[.int .u8 (r.ck % 256)] 5)).alloc (.cells #[.int .u8 (wrap64 (16 + r.qk) % 256)] 5)) w.heap.size (.slice (some ⟨(w.heap.size + 1 + 1), 0, none⟩) 1 1) [kb r] from (Own.lit EB_ok (w := ((w.alloc (.cells (qc r) 36)).alloc (.cells #[.int .u8 (r.ck % 256)] 5))) [kb r] (by rw [show wrap64 (16 + r.qk) % 256 = kb r by rw [show wrap64 (16 + r.qk) = 16 + r.qk by have := HM.out; rw [hb'.out] at this; unfold wrap64; omega, ← hb'.out]; exact HK.out]; rfl) (by simp; omega) (by show 1 ≤ maxLen; decide) (by simp)))
    go_wp2_with (first
      | (with_reducible refine wpList_loadQ (dst := some 20) ?_ HBx.out ?_); rfl)
    refine (KN.out _).mono ?_
    rintro e w3 ⟨u4, rfl, hs3, hnew, hf3⟩
    have hsh : ∃ g4 o4 c4, u4 = .slice (some ⟨g4, o4, none⟩) n c4 ∧ g4 < w3.heap.size := by
      rcases hs3 with ⟨_, h⟩ | ⟨g4, o4, c4, h, _, ha, _⟩
      · have h0 := congrArg List.length h
        rw [HLen.out, List.length_nil] at h0
        have := hn.out
        omega
      · exact ⟨g4, o4, c4, by rw [h, HLen.out], ha⟩
    obtain ⟨g4, o4, c4, hu4, hg4⟩ := hsh
    subst hu4
    have HS3 := Lib.hid hs3
    have HF3 := Lib.hid (HFx.out.trans hf3)
    have HO3 := Lib.hid (Own.fr (S := Nil) HOx.out hf3 (fun _ _ h => h))
    have HN3 := Lib.hid (show (w.heap.size + 1 + 1) ≠ g4 by have h1 := hnew g4 rfl; have h2 := (HOx.out.lt (w.heap.size + 1 + 1) rfl).2; omega)
    have HG4 := Lib.hid (show g4 < w3.heap.size from hg4)
    clear hs3 hnew hf3 hg4 c0 c1 c8
    go_wp2_with fail
    go_loopw [3, 5] (fun v3 i wr => ∃ k : Nat, k ≤ n ∧ i = .int .i64 k ∧ Own EB wr w.heap.size v3 (kb r :: body r (os.take k)) ∧ Sl EI wr (.slice (some ⟨g4, o4, none⟩) n c4) (os.map (num r)) ∧ (∀ g, v3.ownBlock = some g → g ≠ g4) ∧ g4 < wr.heap.size ∧ Fr Nil w wr) (fun _ i _ => n - (intOf i).toNat)
    case atStart => exact ⟨0, by omega, rfl, HO3.out, HS3.out, fun g hg => by simp [Value.ownBlock] at hg; have := HN3.out; omega, HG4.out, HF3.out⟩
    case round =>
      obtain ⟨k, hk, rfl, ho, hsl, hne, hglt, hf⟩ := hrel
      have HO1 := Lib.hid ho
      have HS := Lib.hid hsl
      have HN := Lib.hid hne
      have HGl := Lib.hid hglt
      have HF := Lib.hid hf
      by_cases hlt : k < n
      · have hkos : k < os.length := by have := HOn.out; omega
        obtain ⟨o, ho'⟩ : ∃ o, os[k]? = some o := ⟨os[k], List.getElem?_eq_getElem hkos⟩
        have HT := Lib.hid (show body r (os.take (k + 1)) = body r (os.take k) ++ vint (fold (num r o)) by
          obtain ⟨h1, h2⟩ := List.getElem?_eq_some_iff.1 ho'
          rw [List.take_succ_eq_append_getElem h1, h2, body_snoc])
        have hc : wr.cell? ⟨g4, o4 + k, none⟩ = some (.int .i64 (num r o)) := cell_i (sl_row hsl) (by rw [List.getElem?_map, ho']; rfl)
        have hlt' : (k : Int) < n := by omega
        have hk9 : (k : Int) ≤ 4 := by have := hn.out; omega
        have hl1 : (kb r :: body r (os.take k)).length ≤ 100000 := by
          have := body_len HL.out (os.take k)
          rw [List.length_take] at this
          have := hn.out
          simp
          omega
        have HQ := Lib.hid (KP.out o _ hl1 wr u3 HO1.out HF.out.size)
        clear ho hsl hne hf hglt ho' hkos
        go_wp2_with fail
        refine HQ.out.mono ?_
        rintro e w5 ⟨u, rfl, hx, ho3⟩
        have HX := Lib.hid hx
        have HO5 := Lib.hid (show Own EB w5 w.heap.size u (kb r :: body r (os.take (k + 1))) by rw [HT.out]; exact ho3)
        clear hx ho3 HQ
        go_wp2_with fail
        go_roundw
        case rel =>
          have h1 := HX.out.1
          refine ⟨k + 1, by omega, by go_num, HO5.out, HS.out.frS h1 (fun g hg hs => by simp [Value.ownBlock] at hg; exact HN.out g hs hg.symm), fun g hg => ?_, Nat.lt_of_lt_of_le HGl.out h1.size, HF.out.then h1 (fun i hi hlt => absurd (HO1.out.lt i hi).1 (by omega))⟩
          rcases HX.out.2 g hg with h | h
          · exact HN.out g h
          · have := HGl.out; omega
        case measure => simp [intOf]; omega
      · obtain rfl : k = n := by omega
        have HZ := Lib.hid (show Own EB wr w.heap.size u3 (encB r) by rw [HE.out]; rwa [List.take_of_length_le (by have := HOn.out; omega)] at ho)
        clear ho hsl hne hf hglt
        go_wp2_with fail
        go_ret
        exact ⟨_, rfl, HF.out, HZ.out⟩
end
end Go.Proofs.Ytdfggjniemncgaa.CodecQ
