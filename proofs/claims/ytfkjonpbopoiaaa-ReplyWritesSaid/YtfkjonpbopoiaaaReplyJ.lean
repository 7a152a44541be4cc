/- Chapter 30: the walk of the reader's all. -/
import Derived.Test.YtfkjonpbopoiaaaReplyI
namespace Go.Proofs.Ytfkjonpbopoiaaa.ReplyJ
open Go.RowKit Base Slices TrapA TrapB VintA VintB VintC VintD Quiet ReplyA ReplyD ReplyE ReplyH ReplyI
set_option linter.unusedVariables false
set_option linter.unusedSimpArgs false

/-- how much a reader has still to read -/
def rdLen (w : World) (g : Nat) : Nat := match w.cell? ⟨g, 0, none⟩ with
  | some (.slice _ n _) => n
  | _ => 0
theorem rdLen_eq {D g : Nat} {w : World} {b : List Int} (h : Rd D w g b) : rdLen w g = b.length := by
  obtain ⟨s, h1, h2, _⟩ := h
  obtain ⟨A, c, rfl⟩ := h2.shape
  unfold rdLen
  rw [h1.c1.1]

theorem one_i {w : World} {g : Nat} (n : Int) (hg : g = w.heap.size) : Come EI (w.alloc (.cells #[.int .i64 n] 3)) (.slice (some ⟨g, 0, none⟩) 1 1) [n] := (lit_sl EI_ok [n] rfl hg _).come

/-- what all tells of bytes -/
def AllR (b : List Int) (g : Nat) (w : World) (e : Ending) (w' : World) : Prop :=
  (∃ r s, parse b = some r ∧ e = .returned (rv r s) ∧ Sl EI w' s r.ids ∧ (∀ k, s.ownBlock = some k → w.heap.size ≤ k) ∧ Fr (fun k => k = g) w w') ∨
  (parse b = none ∧ e = .panicked [fault 0 (if b = [] then 1 else 8)] ∧ Fr (fun k => k = g) w w')

theorem AllR.ok {b : List Int} {g : Nat} {w w' : World} {e : Ending} (r : Rp) (s : Value) (h1 : parse b = some r) (h2 : e = .returned (rv r s)) (h3 : Sl EI w' s r.ids) (h4 : ∀ k, s.ownBlock = some k → w.heap.size ≤ k) (h5 : Fr (fun k => k = g) w w') : AllR b g w e w' := Or.inl ⟨r, s, h1, h2, h3, h4, h5⟩
theorem AllR.bad {b : List Int} {g : Nat} {w w' : World} {e : Ending} (h1 : parse b = none) (h2 : e = .panicked [fault 0 (if b = [] then 1 else 8)]) (h5 : Fr (fun k => k = g) w w') : AllR b g w e w' := Or.inr ⟨h1, h2, h5⟩

set_option maxRecDepth 100000 in
set_option maxHeartbeats 8000000 in
theorem all_any (w : World) {g : Nat} {b : List Int} (hl : b.length ≤ 1000) (hb : Bytes b) (h : Rd w.heap.size w g b) :
    Calls Try.prog 21 #[.pointer (some ⟨g, 0, none⟩)] w (AllR b g w) := by
  have hg : g < w.heap.size := by obtain ⟨s, h1, _⟩ := h; exact h1.lt
  have HA0 := Lib.hid (Bk.new w 27 #[.int .i64 0, .bool false, .bool false, .int .i64 0, .slice none 0 0])
  have G0 := Lib.hid ((Fr.refl Nil w).alloc (.cells #[.int .i64 0, .bool false, .bool false, .int .i64 0, .slice none 0 0] 27))
  have R0 := Lib.hid (h.fr G0.out)
  cases b with
  | nil =>
    have K := Lib.hid (byte_bad _ R0.out)
    clear h
    go_enter Try.func21, Try.ntmps21
    go_wp2_with fail
    refine K.out.mono ?_
    rintro e w1 ⟨rfl, hf⟩
    exact ⟨rfl, AllR.bad (by simp [parse]) rfl (G0.out.trans hf).of_nil⟩
  | cons c b1 =>
    have K := Lib.hid (byte_ok _ (by simp at hl; omega) R0.out)
    have hbc := hb c (by simp)
    have hc0 : 0 ≤ c := hbc.1
    have hc1 : c ≤ 255 := hbc.2
    have hb1 : Bytes b1 := fun x hx => hb x (by simp [hx])
    have hl1 : b1.length ≤ 1000 := by simp at hl; omega
    clear h hbc
    go_enter Try.func21, Try.ntmps21
    go_wp2_with fail
    refine K.out.mono ?_
    rintro e w1 ⟨rfl, hf, hr⟩
    have HF1 := Lib.hid (show Fr (fun k => k = g) w w1 from G0.out.of_nil.trans (hf.mono fun k hk _ => hk))
    have HA1 := Lib.hid (HA0.out.fr hf (by omega))
    have R1 := Lib.hid (hr.fr ((Fr.refl Nil w1).alloc (.cells #[.int .i64 c, .bool false, .bool false, .int .i64 0, .slice none 0 0] 27)))
    have hsz1 : w.heap.size < w1.heap.size := HA1.out.lt
    have hgB : g ≠ w1.heap.size := by omega
    have HAo := Lib.hid (HA1.out.alloc (.cells #[.int .i64 c, .bool false, .bool false, .int .i64 0, .slice none 0 0] 27))
    obtain ⟨s1, hB1, hs1, hn1⟩ := R1.out
    obtain ⟨A1, k1, rfl⟩ := hs1.shape
    obtain ⟨r0, e0⟩ := hB1.c1
    obtain ⟨a0, a1, a2, a3, a4, x0, x1, x2, x3, x4⟩ := HAo.out.c5
    have hne1 : ¬ w1.heap.size = w.heap.size := by omega
    clear hf hr hs1 hB1
    cases b1 with
    | nil =>
      simp only [List.length_nil] at r0
      have HFo := Lib.hid (HF1.out.alloc (.cells #[.int .i64 c, .bool false, .bool false, .int .i64 0, .slice none 0 0] 27))
      obtain ⟨a0, a1, a2, a3, a4, x0, x1, x2, x3, x4⟩ := HA1.out.c5
      go_wp2_with fail
      have HK := Lib.hid ((((((HA1.out.put 0 (.int .i64 c)).put 1 (.bool false)).put 2 (.bool false)).put 3 (.int .i64 0)).put 4 (.slice none 0 0)).alloc (.cells #[.int .i64 c, .bool false, .bool false, .int .i64 0, .slice none 0 0] 27))
      have HW := Lib.hid (show Fr (fun k => k = g) w ((((((w1.setCell ⟨w.heap.size, 0, none⟩ (.int .i64 c)).setCell ⟨w.heap.size, 1, none⟩ (.bool false)).setCell ⟨w.heap.size, 2, none⟩ (.bool false)).setCell ⟨w.heap.size, 3, none⟩ (.int .i64 0)).setCell ⟨w.heap.size, 4, none⟩ (.slice none 0 0)).alloc (.cells #[.int .i64 c, .bool false, .bool false, .int .i64 0, .slice none 0 0] 27)) by
        refine Fr.alloc ?_ _
        refine Fr.setCell ?_ (fun h => by simp at h) _
        refine Fr.setCell ?_ (fun h => by simp at h) _
        refine Fr.setCell ?_ (fun h => by simp at h) _
        refine Fr.setCell ?_ (fun h => by simp at h) _
        refine Fr.setCell ?_ (fun h => by simp at h) _
        exact HF1.out)
      generalize ((((((w1.setCell ⟨w.heap.size, 0, none⟩ (.int .i64 c)).setCell ⟨w.heap.size, 1, none⟩ (.bool false)).setCell ⟨w.heap.size, 2, none⟩ (.bool false)).setCell ⟨w.heap.size, 3, none⟩ (.int .i64 0)).setCell ⟨w.heap.size, 4, none⟩ (.slice none 0 0)).alloc (.cells #[.int .i64 c, .bool false, .bool false, .int .i64 0, .slice none 0 0] 27)) = W at HW HK ⊢
      have k0 := HK.out.cell 0
      have k1 := HK.out.cell 1
      have k2 := HK.out.cell 2
      have k3 := HK.out.cell 3
      have k4 := HK.out.cell 4
      simp at k0 k1 k2 k3 k4
      exact bodyPost_ret (v := .agg #[(.int .i64 c), (.bool false), (.bool false), (.int .i64 0), (.slice none 0 0)]) (by simp [results, Try.results21, go_sem, k0, k1, k2, k3, k4]) rfl (AllR.ok ⟨c, false, false, 0, []⟩ (.slice none 0 0) (by simp only [parse]) rfl (Or.inl ⟨rfl, rfl⟩) (fun k hk => by cases hk) HW.out)
    | cons t b2 =>
      have K2 := Lib.hid (byte_ok _ (by simp at hl1; omega) R1.out)
      have hbt := hb1 t (by simp)
      have ht0 : 0 ≤ t := hbt.1
      have ht1 : t ≤ 255 := hbt.2
      have hb2 : Bytes b2 := fun x hx => hb1 x (by simp [hx])
      have hl2 : b2.length ≤ 1000 := by simp at hl1; omega
      have hln : ((t :: b2).length : Int) ≠ 0 := by simp; omega
      have hln2 : (((t :: b2).length : Int) == 0) = false := by simpa using hln
      generalize (t :: b2).length = n1 at r0 hln hln2
      have hln3 : ¬ n1 = 0 := by omega
      have hln4 : (n1 == 0) = false := by simpa using hln3
      have hln5 : decide (n1 = 0) = false := decide_eq_false hln3
      clear hbt
      go_wp2_with fail
      refine K2.out.mono ?_
      rintro e w2 ⟨rfl, hf, hr⟩
      have HF2 := Lib.hid ((HF1.out.alloc (.cells #[.int .i64 c, .bool false, .bool false, .int .i64 0, .slice none 0 0] 27)).trans hf)
      have HA2 := Lib.hid (HAo.out.fr hf (by omega))
      have HB2 := Lib.hid ((Bk.new w1 27 #[.int .i64 c, .bool false, .bool false, .int .i64 0, .slice none 0 0]).fr hf (by omega))
      have R2 := Lib.hid hr
      obtain ⟨s2, hs2B, hs2, hn2⟩ := hr
      obtain ⟨A2, k2, rfl⟩ := hs2.shape
      obtain ⟨q0, qe0⟩ := hs2B.c1
      obtain ⟨a0, a1, a2, a3, a4, x0, x1, x2, x3, x4⟩ := HA2.out.c5
      obtain ⟨b0, b1', b2', b3, b4, y0, y1, y2, y3, y4⟩ := HB2.out.c5
      clear hf hs2B hs2
      have HL2 := Lib.hid hl2
      by_cases h2 : t = 2
      · subst h2
        have HFB := Lib.hid (show Fr (fun k => k = w1.heap.size) w2 ((w2.setCell ⟨w1.heap.size, 2, none⟩ (.bool true)).setCell ⟨w1.heap.size, 1, none⟩ (.bool true)) by
          refine Fr.setCell (S := fun k => k = w1.heap.size) ?_ (fun _ => rfl) _
          refine Fr.setCell (S := fun k => k = w1.heap.size) ?_ (fun _ => rfl) _
          exact Fr.refl _ _)
        have HB3 := Lib.hid (show Bk ((w2.setCell ⟨w1.heap.size, 2, none⟩ (.bool true)).setCell ⟨w1.heap.size, 1, none⟩ (.bool true)) w1.heap.size 27 #[.int .i64 c, .bool true, .bool true, .int .i64 0, .slice none 0 0] from (HB2.out.put 2 (.bool true)).put 1 (.bool true))
        have R3 := Lib.hid (R2.out.frS HFB.out (fun k hk => by omega))
        have HA3 := Lib.hid (HA2.out.fr HFB.out (by omega))
        have HF3 := Lib.hid (HF2.out.then HFB.out (fun k hk hlt => by omega))
        cases hnx : next b2 with
        | none =>
          have KI := Lib.hid (int_bad _ (by have := HL2.out; omega) hb2 R3.out hnx)
          go_wp2_with fail
          refine KI.out.mono ?_
          rintro e w4 ⟨rfl, hf⟩
          exact ⟨rfl, AllR.bad (by simp [parse, hnx]) (by simp) (HF3.out.trans hf.of_nil)⟩
        | some z =>
          have KI := Lib.hid (int_ok _ (by have := HL2.out; omega) hb2 R3.out hnx)
          have HNX := Lib.hid hnx
          have HNL := Lib.hid (next_len hnx)
          obtain ⟨n, hn⟩ : ∃ n, unfold_ z = n := ⟨_, rfl⟩
          rw [hn] at KI
          have HN := Lib.hid hn
          clear hnx hn
          go_wp2_with fail
          refine KI.out.mono ?_
          rintro e w4 ⟨rfl, hf, hr⟩
          have HB4 := Lib.hid (HB3.out.fr hf (by omega))
          have HA4 := Lib.hid (HA3.out.fr hf (by omega))
          have HF4 := Lib.hid (HF3.out.trans hf)
          have R4 := Lib.hid hr
          have hB4 := HB4.out.lt
          clear hf hr
          have HFC := Lib.hid (show Fr (fun k => k = w1.heap.size) w4 (w4.setCell ⟨w1.heap.size, 3, none⟩ (.int .i64 n)) from Fr.setCell (S := fun k => k = w1.heap.size) (Fr.refl _ _) (fun _ => rfl) _)
          have HB5 := Lib.hid (show Bk (w4.setCell ⟨w1.heap.size, 3, none⟩ (.int .i64 n)) w1.heap.size 27 #[.int .i64 c, .bool true, .bool true, .int .i64 n, .slice none 0 0] from HB4.out.put 3 (.int .i64 n))
          have HA5 := Lib.hid (HA4.out.fr HFC.out (by omega))
          have HF5 := Lib.hid (HF4.out.then HFC.out (fun k hk hlt => by omega))
          have R5 := Lib.hid (R4.out.frS HFC.out (fun k hk => by omega))
          obtain ⟨b0, b1', b2', b3, b4, y0, y1, y2, y3, y4⟩ := HB4.out.c5
          go_wp2_with fail
          generalize w4.setCell ⟨w1.heap.size, 3, none⟩ (.int .i64 n) = w5 at HFC HB5 HA5 HF5 R5 ⊢
          have HBb := Lib.hid (hb2.drop (vint z).length)
          have HLb := Lib.hid (show (b2.drop (vint z).length).length ≤ 1000 by rw [List.length_drop]; have := HL2.out; omega)
          have HP := Lib.hid (show parse (c :: 2 :: b2) = (ids 0 (b2.drop (vint z).length)).map fun l => ⟨c, true, true, n, l⟩ by have h := HNX.out; simp [parse, h, HN.out])
          obtain ⟨bz, hbz⟩ : ∃ bz, bz = b2.drop (vint z).length := ⟨_, rfl⟩
          rw [← hbz] at R5 HBb HLb HP
          clear hbz HNX HNL HN
          go_loopw [4] (fun x4 wr => ∃ (acc : List Int) (last : Int) (bc : List Int) (s : Value), x4 = .int .i64 last ∧ Bk wr w.heap.size 27 #[.int .i64 0, .bool false, .bool false, .int .i64 0, .slice none 0 0] ∧ Bk wr w1.heap.size 27 #[.int .i64 c, .bool true, .bool true, .int .i64 n, s] ∧ Own EI wr (w1.heap.size + 1) s acc ∧ Rd w.heap.size wr g bc ∧ Bytes bc ∧ bc.length + acc.length ≤ 1000 ∧ -(2147483647 * (acc.length : Int)) ≤ last ∧ last ≤ 2147483647 * (acc.length : Int) ∧ ids 0 bz = (ids last bc).map (acc ++ ·) ∧ Fr (fun k => k = g) w wr) (fun _ wr => rdLen wr g)
          case atStart => exact ⟨[], 0, bz, _, rfl, HA5.out, HB5.out, Own.nil _ _, R5.out, HBb.out, by have := HLb.out; simp; omega, by simp, by simp, by simp, HF5.out⟩
          case round =>
            obtain ⟨acc, last, bc, s, rfl, hA, hB, ho, hR, hbc, hlen, hb0, hb1, hid, hF⟩ := hrel
            have HA := Lib.hid hA
            have HB := Lib.hid hB
            have HO := Lib.hid ho
            have HR := Lib.hid hR
            have HI := Lib.hid hid
            have HF := Lib.hid hF
            have HBc := Lib.hid hbc
            have HLn := Lib.hid hlen
            obtain ⟨As, ks, rfl⟩ := (ho.sl EI_ok).shape
            obtain ⟨a0, a1, a2, a3, a4, x0, x1, x2, x3, x4⟩ := hA.c5
            obtain ⟨b0, b1', b2', b3', b4, y0, y1, y2, y3, y4⟩ := hB.c5
            obtain ⟨sr, hRB, hRs, hRn⟩ := hR
            obtain ⟨Ar, kr, rfl⟩ := hRs.shape
            obtain ⟨r0, e0⟩ := hRB.c1
            have HRL := Lib.hid (rdLen_eq HR.out)
            clear hA hB ho hid hF hbc hRB hRs hRn hlen
            by_cases hbe : bc = []
            · subst hbe
              simp only [List.length_nil] at r0
              go_wp2_with fail
              have HK := Lib.hid (((((HA.out.put 0 (.int .i64 c)).put 1 (.bool true)).put 2 (.bool true)).put 3 (.int .i64 n)).put 4 (.slice As acc.length ks))
              have HW := Lib.hid (show Fr (fun k => k = g) w (((((wr.setCell ⟨w.heap.size, 0, none⟩ (.int .i64 c)).setCell ⟨w.heap.size, 1, none⟩ (.bool true)).setCell ⟨w.heap.size, 2, none⟩ (.bool true)).setCell ⟨w.heap.size, 3, none⟩ (.int .i64 n)).setCell ⟨w.heap.size, 4, none⟩ (.slice As acc.length ks)) by
                refine Fr.setCell ?_ (fun h => by simp at h) _
                refine Fr.setCell ?_ (fun h => by simp at h) _
                refine Fr.setCell ?_ (fun h => by simp at h) _
                refine Fr.setCell ?_ (fun h => by simp at h) _
                refine Fr.setCell ?_ (fun h => by simp at h) _
                exact HF.out)
              have HW2 := Lib.hid (show Fr (fun k => k = w.heap.size) wr (((((wr.setCell ⟨w.heap.size, 0, none⟩ (.int .i64 c)).setCell ⟨w.heap.size, 1, none⟩ (.bool true)).setCell ⟨w.heap.size, 2, none⟩ (.bool true)).setCell ⟨w.heap.size, 3, none⟩ (.int .i64 n)).setCell ⟨w.heap.size, 4, none⟩ (.slice As acc.length ks)) by
                refine Fr.setCell (S := fun k => k = w.heap.size) ?_ (fun _ => rfl) _
                refine Fr.setCell (S := fun k => k = w.heap.size) ?_ (fun _ => rfl) _
                refine Fr.setCell (S := fun k => k = w.heap.size) ?_ (fun _ => rfl) _
                refine Fr.setCell (S := fun k => k = w.heap.size) ?_ (fun _ => rfl) _
                refine Fr.setCell (S := fun k => k = w.heap.size) ?_ (fun _ => rfl) _
                exact Fr.refl _ _)
              generalize (((((wr.setCell ⟨w.heap.size, 0, none⟩ (.int .i64 c)).setCell ⟨w.heap.size, 1, none⟩ (.bool true)).setCell ⟨w.heap.size, 2, none⟩ (.bool true)).setCell ⟨w.heap.size, 3, none⟩ (.int .i64 n)).setCell ⟨w.heap.size, 4, none⟩ (.slice As acc.length ks)) = W at HW HW2 HK ⊢
              have k0 := HK.out.cell 0
              have k1 := HK.out.cell 1
              have k2 := HK.out.cell 2
              have k3 := HK.out.cell 3
              have k4 := HK.out.cell 4
              simp at k0 k1 k2 k3 k4
              exact bodyPost_ret (v := .agg #[(.int .i64 c), (.bool true), (.bool true), (.int .i64 n), (.slice As acc.length ks)]) (by simp [results, Try.results21, go_sem, k0, k1, k2, k3, k4]) rfl (AllR.ok ⟨c, true, true, n, acc⟩ (.slice As acc.length ks) (by rw [HP.out, HI.out, ids_nil]; simp) rfl ((HO.out.sl EI_ok).frS HW2.out (fun k hk hs => by have := (HO.out.lt k hk).1; omega)) (fun k hk => by have := (HO.out.lt k hk).1; omega) HW.out)
            · have hpos : (0 : Int) < bc.length := by have := List.length_pos_iff.2 hbe; omega
              cases hnx : next bc with
              | none =>
                have KI := Lib.hid (int_bad _ (by have := HLn.out; omega) HBc.out HR.out hnx)
                have HNo := Lib.hid (ids_none (last := last) hbe hnx)
                go_wp2_with fail
                refine KI.out.mono ?_
                rintro e w6 ⟨rfl, hf⟩
                exact ⟨rfl, AllR.bad (by rw [HP.out, HI.out, HNo.out]; rfl) (by simp) (HF.out.trans hf.of_nil)⟩
              | some z' =>
                have KI := Lib.hid (int_ok _ (by have := HLn.out; omega) HBc.out HR.out hnx)
                have HNs := Lib.hid (ids_some (last := last) hbe hnx)
                have HNl := Lib.hid (next_len hnx)
                have HNp := Lib.hid (vint_len_pos z')
                generalize unfold_ z' = n' at KI HNs
                have hal : (acc.length : Int) ≤ 1000 := by have := HLn.out; omega
                have hlo : -2147483647000 ≤ last := by omega
                have hhi : last ≤ 2147483647000 := by omega
                clear hnx
                go_wp2_with fail
                refine KI.out.mono ?_
                rintro e w6 ⟨rfl, hf, hr⟩
                have HA6 := Lib.hid (HA.out.fr hf (by omega))
                have HB6 := Lib.hid (HB.out.fr hf (by omega))
                have HO6 := Lib.hid (HO.out.fr hf (fun k hk hs => by have := (HO.out.lt k hk).1; omega))
                have HF6 := Lib.hid (HF.out.trans hf)
                have R6 := Lib.hid hr
                obtain ⟨b0, b1', b2', b3', b4, y0, y1, y2, y3, y4⟩ := HB6.out.c5
                clear hf hr
                by_cases n1' : n' < -2147483647
                · have n2' : ¬ 2147483647 < n' := by omega
                  have HX := Lib.hid (show last + clamp n' = last + -2147483647 by unfold clamp; omega)
                  have HBS := Lib.hid (show w1.heap.size + 1 ≤ (w6.alloc (.cells #[.int .i64 (last + -2147483647)] 3)).heap.size by have := HB6.out.lt; simp; omega)
                  go_wp2_with (at_builtin; refine wpList_app EI_ok rfl (.tmp 46) (.tmp 48) 23 rfl rfl (w1.heap.size + 1) _ _ acc [last + -2147483647] rfl (HO6.out.alloc _) rfl (one_i _ rfl) (by simp; omega) HBS.out ?_; intro v7 w7 o1 o2 o3 o4; obtain ⟨A7, c7, rfl⟩ := (o1.sl EI_ok).shape; have HB7 := Lib.hid (Bk.fr (HB6.out.alloc _) o2 (fun hs => by have := (HO6.out.lt _ hs).1; omega)); obtain ⟨b0, b1', b2', b3', b4, y0, y1, y2, y3, y4⟩ := HB7.out.c5)
                  have HFD := Lib.hid (show Fr (fun k => k = w1.heap.size) w7 (w7.setCell ⟨w1.heap.size, 4, none⟩ (.slice A7 (acc ++ [last + -2147483647]).length c7)) from Fr.setCell (S := fun k => k = w1.heap.size) (Fr.refl _ _) (fun _ => rfl) _)
                  have HR8 := Lib.hid (((R6.out.fr ((Fr.refl Nil w6).alloc (.cells #[.int .i64 (last + -2147483647)] 3))).frS o2 (fun k hk => by have := (HO6.out.lt _ hk).1; omega)).frS HFD.out (fun k hk => by omega))
                  have HB8 := Lib.hid (HB7.out.put 4 (.slice A7 (acc ++ [last + -2147483647]).length c7))
                  have HA8 := Lib.hid ((Bk.fr (HA6.out.alloc _) o2 (fun hs => by have := (HO6.out.lt _ hs).1; omega)).fr HFD.out (by omega))
                  have HO8 := Lib.hid (o1.fr HFD.out (fun k hk hs => by rcases o3 k hk with h | h; have := (HO6.out.lt _ h).1; omega; have := HBS.out; omega))
                  have HF8 := Lib.hid (((HF6.out.alloc (.cells #[.int .i64 (last + -2147483647)] 3)).then o2 (fun k hk hlt => by have := (HO6.out.lt _ hk).1; omega)).then HFD.out (fun k hk hlt => by omega))
                  have HL8 := Lib.hid (rdLen_eq HR8.out)
                  simp only [List.length_append, List.length_singleton] at HFD HR8 HB8 HA8 HO8 HF8 HL8
                  clear o1 o2 o3 o4
                  go_roundw
                  case rel =>
                    refine ⟨acc ++ [last + -2147483647], last + -2147483647, bc.drop (vint z').length, .slice A7 (acc.length + 1) c7, rfl, HA8.out, HB8.out, HO8.out, HR8.out, HBc.out.drop _, ?_, ?_, ?_, ?_, HF8.out⟩
                    · have h1 := HLn.out
                      have h2 := HNl.out
                      have h3 := HNp.out
                      rw [List.length_drop, List.length_append, List.length_singleton]
                      omega
                    · rw [List.length_append, List.length_singleton]
                      omega
                    · rw [List.length_append, List.length_singleton]
                      omega
                    · have h := HNs.out
                      rw [HX.out] at h
                      rw [HI.out, h, Option.map_map]
                      congr 1
                      funext l
                      simp
                  case measure =>
                    show rdLen _ g < rdLen wr g
                    rw [HL8.out, HRL.out, List.length_drop]
                    have h2 := HNl.out
                    have h3 := HNp.out
                    omega
                · by_cases n2' : 2147483647 < n'
                  · have HX := Lib.hid (show last + clamp n' = last + 2147483647 by unfold clamp; omega)
                    have HBS := Lib.hid (show w1.heap.size + 1 ≤ (w6.alloc (.cells #[.int .i64 (last + 2147483647)] 3)).heap.size by have := HB6.out.lt; simp; omega)
                    go_wp2_with (at_builtin; refine wpList_app EI_ok rfl (.tmp 46) (.tmp 48) 23 rfl rfl (w1.heap.size + 1) _ _ acc [last + 2147483647] rfl (HO6.out.alloc _) rfl (one_i _ rfl) (by simp; omega) HBS.out ?_; intro v7 w7 o1 o2 o3 o4; obtain ⟨A7, c7, rfl⟩ := (o1.sl EI_ok).shape; have HB7 := Lib.hid (Bk.fr (HB6.out.alloc _) o2 (fun hs => by have := (HO6.out.lt _ hs).1; omega)); obtain ⟨b0, b1', b2', b3', b4, y0, y1, y2, y3, y4⟩ := HB7.out.c5)
                    have HFD := Lib.hid (show Fr (fun k => k = w1.heap.size) w7 (w7.setCell ⟨w1.heap.size, 4, none⟩ (.slice A7 (acc ++ [last + 2147483647]).length c7)) from Fr.setCell (S := fun k => k = w1.heap.size) (Fr.refl _ _) (fun _ => rfl) _)
                    have HR8 := Lib.hid (((R6.out.fr ((Fr.refl Nil w6).alloc (.cells #[.int .i64 (last + 2147483647)] 3))).frS o2 (fun k hk => by have := (HO6.out.lt _ hk).1; omega)).frS HFD.out (fun k hk => by omega))
                    have HB8 := Lib.hid (HB7.out.put 4 (.slice A7 (acc ++ [last + 2147483647]).length c7))
                    have HA8 := Lib.hid ((Bk.fr (HA6.out.alloc _) o2 (fun hs => by have := (HO6.out.lt _ hs).1; omega)).fr HFD.out (by omega))
                    have HO8 := Lib.hid (o1.fr HFD.out (fun k hk hs => by rcases o3 k hk with h | h; have := (HO6.out.lt _ h).1; omega; have := HBS.out; omega))
                    have HF8 := Lib.hid (((HF6.out.alloc (.cells #[.int .i64 (last + 2147483647)] 3)).then o2 (fun k hk hlt => by have := (HO6.out.lt _ hk).1; omega)).then HFD.out (fun k hk hlt => by omega))
                    have HL8 := Lib.hid (rdLen_eq HR8.out)
                    simp only [List.length_append, List.length_singleton] at HFD HR8 HB8 HA8 HO8 HF8 HL8
                    clear o1 o2 o3 o4
                    go_roundw
                    case rel =>
                      refine ⟨acc ++ [last + 2147483647], last + 2147483647, bc.drop (vint z').length, .slice A7 (acc.length + 1) c7, rfl, HA8.out, HB8.out, HO8.out, HR8.out, HBc.out.drop _, ?_, ?_, ?_, ?_, HF8.out⟩
                      · have h1 := HLn.out
                        have h2 := HNl.out
                        have h3 := HNp.out
                        rw [List.length_drop, List.length_append, List.length_singleton]
                        omega
                      · rw [List.length_append, List.length_singleton]
                        omega
                      · rw [List.length_append, List.length_singleton]
                        omega
                      · have h := HNs.out
                        rw [HX.out] at h
                        rw [HI.out, h, Option.map_map]
                        congr 1
                        funext l
                        simp
                    case measure =>
                      show rdLen _ g < rdLen wr g
                      rw [HL8.out, HRL.out, List.length_drop]
                      have h2 := HNl.out
                      have h3 := HNp.out
                      omega
                  · have HX := Lib.hid (show last + clamp n' = last + n' by unfold clamp; omega)
                    have HBS := Lib.hid (show w1.heap.size + 1 ≤ (w6.alloc (.cells #[.int .i64 (last + n')] 3)).heap.size by have := HB6.out.lt; simp; omega)
                    go_wp2_with (at_builtin; refine wpList_app EI_ok rfl (.tmp 46) (.tmp 48) 23 rfl rfl (w1.heap.size + 1) _ _ acc [last + n'] rfl (HO6.out.alloc _) rfl (one_i _ rfl) (by simp; omega) HBS.out ?_; intro v7 w7 o1 o2 o3 o4; obtain ⟨A7, c7, rfl⟩ := (o1.sl EI_ok).shape; have HB7 := Lib.hid (Bk.fr (HB6.out.alloc _) o2 (fun hs => by have := (HO6.out.lt _ hs).1; omega)); obtain ⟨b0, b1', b2', b3', b4, y0, y1, y2, y3, y4⟩ := HB7.out.c5)
                    have HFD := Lib.hid (show Fr (fun k => k = w1.heap.size) w7 (w7.setCell ⟨w1.heap.size, 4, none⟩ (.slice A7 (acc ++ [last + n']).length c7)) from Fr.setCell (S := fun k => k = w1.heap.size) (Fr.refl _ _) (fun _ => rfl) _)
                    have HR8 := Lib.hid (((R6.out.fr ((Fr.refl Nil w6).alloc (.cells #[.int .i64 (last + n')] 3))).frS o2 (fun k hk => by have := (HO6.out.lt _ hk).1; omega)).frS HFD.out (fun k hk => by omega))
                    have HB8 := Lib.hid (HB7.out.put 4 (.slice A7 (acc ++ [last + n']).length c7))
                    have HA8 := Lib.hid ((Bk.fr (HA6.out.alloc _) o2 (fun hs => by have := (HO6.out.lt _ hs).1; omega)).fr HFD.out (by omega))
                    have HO8 := Lib.hid (o1.fr HFD.out (fun k hk hs => by rcases o3 k hk with h | h; have := (HO6.out.lt _ h).1; omega; have := HBS.out; omega))
                    have HF8 := Lib.hid (((HF6.out.alloc (.cells #[.int .i64 (last + n')] 3)).then o2 (fun k hk hlt => by have := (HO6.out.lt _ hk).1; omega)).then HFD.out (fun k hk hlt => by omega))
                    have HL8 := Lib.hid (rdLen_eq HR8.out)
                    simp only [List.length_append, List.length_singleton] at HFD HR8 HB8 HA8 HO8 HF8 HL8
                    clear o1 o2 o3 o4
                    go_roundw
                    case rel =>
                      refine ⟨acc ++ [last + n'], last + n', bc.drop (vint z').length, .slice A7 (acc.length + 1) c7, rfl, HA8.out, HB8.out, HO8.out, HR8.out, HBc.out.drop _, ?_, ?_, ?_, ?_, HF8.out⟩
                      · have h1 := HLn.out
                        have h2 := HNl.out
                        have h3 := HNp.out
                        rw [List.length_drop, List.length_append, List.length_singleton]
                        omega
                      · rw [List.length_append, List.length_singleton]
                        omega
                      · rw [List.length_append, List.length_singleton]
                        omega
                      · have h := HNs.out
                        rw [HX.out] at h
                        rw [HI.out, h, Option.map_map]
                        congr 1
                        funext l
                        simp
                    case measure =>
                      show rdLen _ g < rdLen wr g
                      rw [HL8.out, HRL.out, List.length_drop]
                      have h2 := HNl.out
                      have h3 := HNp.out
                      omega
      · by_cases h1 : t = 1
        · subst h1
          have HFB := Lib.hid (show Fr (fun k => k = w1.heap.size) w2 (w2.setCell ⟨w1.heap.size, 1, none⟩ (.bool true)) by
            refine Fr.setCell (S := fun k => k = w1.heap.size) ?_ (fun _ => rfl) _
            exact Fr.refl _ _)
          have HB3 := Lib.hid (show Bk (w2.setCell ⟨w1.heap.size, 1, none⟩ (.bool true)) w1.heap.size 27 #[.int .i64 c, .bool true, .bool false, .int .i64 0, .slice none 0 0] from HB2.out.put 1 (.bool true))
          have R3 := Lib.hid (R2.out.frS HFB.out (fun k hk => by omega))
          have HA3 := Lib.hid (HA2.out.fr HFB.out (by omega))
          have HF3 := Lib.hid (HF2.out.then HFB.out (fun k hk hlt => by omega))
          cases hnx : next b2 with
          | none =>
            have KI := Lib.hid (int_bad _ (by have := HL2.out; omega) hb2 R3.out hnx)
            go_wp2_with fail
            refine KI.out.mono ?_
            rintro e w4 ⟨rfl, hf⟩
            exact ⟨rfl, AllR.bad (by simp [parse, hnx]) (by simp) (HF3.out.trans hf.of_nil)⟩
          | some z =>
            have KI := Lib.hid (int_ok _ (by have := HL2.out; omega) hb2 R3.out hnx)
            have HNX := Lib.hid hnx
            have HNL := Lib.hid (next_len hnx)
            obtain ⟨n, hn⟩ : ∃ n, unfold_ z = n := ⟨_, rfl⟩
            rw [hn] at KI
            have HN := Lib.hid hn
            clear hnx hn
            go_wp2_with fail
            refine KI.out.mono ?_
            rintro e w4 ⟨rfl, hf, hr⟩
            have HB4 := Lib.hid (HB3.out.fr hf (by omega))
            have HA4 := Lib.hid (HA3.out.fr hf (by omega))
            have HF4 := Lib.hid (HF3.out.trans hf)
            have R4 := Lib.hid hr
            have hB4 := HB4.out.lt
            clear hf hr
            have HFC := Lib.hid (show Fr (fun k => k = w1.heap.size) w4 (w4.setCell ⟨w1.heap.size, 3, none⟩ (.int .i64 n)) from Fr.setCell (S := fun k => k = w1.heap.size) (Fr.refl _ _) (fun _ => rfl) _)
            have HB5 := Lib.hid (show Bk (w4.setCell ⟨w1.heap.size, 3, none⟩ (.int .i64 n)) w1.heap.size 27 #[.int .i64 c, .bool true, .bool false, .int .i64 n, .slice none 0 0] from HB4.out.put 3 (.int .i64 n))
            have HA5 := Lib.hid (HA4.out.fr HFC.out (by omega))
            have HF5 := Lib.hid (HF4.out.then HFC.out (fun k hk hlt => by omega))
            have R5 := Lib.hid (R4.out.frS HFC.out (fun k hk => by omega))
            obtain ⟨b0, b1', b2', b3, b4, y0, y1, y2, y3, y4⟩ := HB4.out.c5
            go_wp2_with fail
            generalize w4.setCell ⟨w1.heap.size, 3, none⟩ (.int .i64 n) = w5 at HFC HB5 HA5 HF5 R5 ⊢
            obtain ⟨a0, a1, a2, a3, a4, x0, x1, x2, x3, x4⟩ := HA5.out.c5
            obtain ⟨b0, b1', b2', b3, b4, y0, y1, y2, y3, y4⟩ := HB5.out.c5
            refine wp_loop_rounds 1 ?_
            rw [rounds_succ]
            go_wp2_with fail
            have HK := Lib.hid (((((HA5.out.put 0 (.int .i64 c)).put 1 (.bool true)).put 2 (.bool false)).put 3 (.int .i64 n)).put 4 (.slice none 0 0))
            have HW := Lib.hid (show Fr (fun k => k = g) w (((((w5.setCell ⟨w.heap.size, 0, none⟩ (.int .i64 c)).setCell ⟨w.heap.size, 1, none⟩ (.bool true)).setCell ⟨w.heap.size, 2, none⟩ (.bool false)).setCell ⟨w.heap.size, 3, none⟩ (.int .i64 n)).setCell ⟨w.heap.size, 4, none⟩ (.slice none 0 0)) by
              refine Fr.setCell ?_ (fun h => by simp at h) _
              refine Fr.setCell ?_ (fun h => by simp at h) _
              refine Fr.setCell ?_ (fun h => by simp at h) _
              refine Fr.setCell ?_ (fun h => by simp at h) _
              refine Fr.setCell ?_ (fun h => by simp at h) _
              exact HF5.out)
            have HW2 := Lib.hid (show Fr (fun k => k = w.heap.size) w5 (((((w5.setCell ⟨w.heap.size, 0, none⟩ (.int .i64 c)).setCell ⟨w.heap.size, 1, none⟩ (.bool true)).setCell ⟨w.heap.size, 2, none⟩ (.bool false)).setCell ⟨w.heap.size, 3, none⟩ (.int .i64 n)).setCell ⟨w.heap.size, 4, none⟩ (.slice none 0 0)) by
              refine Fr.setCell (S := fun k => k = w.heap.size) ?_ (fun _ => rfl) _
              refine Fr.setCell (S := fun k => k = w.heap.size) ?_ (fun _ => rfl) _
              refine Fr.setCell (S := fun k => k = w.heap.size) ?_ (fun _ => rfl) _
              refine Fr.setCell (S := fun k => k = w.heap.size) ?_ (fun _ => rfl) _
              refine Fr.setCell (S := fun k => k = w.heap.size) ?_ (fun _ => rfl) _
              exact Fr.refl _ _)
            generalize (((((w5.setCell ⟨w.heap.size, 0, none⟩ (.int .i64 c)).setCell ⟨w.heap.size, 1, none⟩ (.bool true)).setCell ⟨w.heap.size, 2, none⟩ (.bool false)).setCell ⟨w.heap.size, 3, none⟩ (.int .i64 n)).setCell ⟨w.heap.size, 4, none⟩ (.slice none 0 0)) = W at HW HW2 HK ⊢
            have k0 := HK.out.cell 0
            have k1 := HK.out.cell 1
            have k2 := HK.out.cell 2
            have k3 := HK.out.cell 3
            have k4 := HK.out.cell 4
            simp at k0 k1 k2 k3 k4
            exact bodyPost_ret (v := .agg #[(.int .i64 c), (.bool true), (.bool false), (.int .i64 n), (.slice none 0 0)]) (by simp [results, Try.results21, go_sem, k0, k1, k2, k3, k4]) rfl (AllR.ok ⟨c, true, false, n, []⟩ (.slice none 0 0) (by have h := HNX.out; simp [parse, h, HN.out]) rfl (Or.inl ⟨rfl, rfl⟩) (fun k hk => by cases hk) HW.out)
        · have h2' : (t == 2) = false := by simpa using h2
          have h1' : (t == 1) = false := by simpa using h1
          go_wp2_with fail
          refine wp_loop_rounds 1 ?_
          rw [rounds_succ]
          go_wp2_with fail
          have HK := Lib.hid (((((HA2.out.put 0 (.int .i64 c)).put 1 (.bool false)).put 2 (.bool false)).put 3 (.int .i64 0)).put 4 (.slice none 0 0))
          have HW := Lib.hid (show Fr (fun k => k = g) w (((((w2.setCell ⟨w.heap.size, 0, none⟩ (.int .i64 c)).setCell ⟨w.heap.size, 1, none⟩ (.bool false)).setCell ⟨w.heap.size, 2, none⟩ (.bool false)).setCell ⟨w.heap.size, 3, none⟩ (.int .i64 0)).setCell ⟨w.heap.size, 4, none⟩ (.slice none 0 0)) by
            refine Fr.setCell ?_ (fun h => by simp at h) _
            refine Fr.setCell ?_ (fun h => by simp at h) _
            refine Fr.setCell ?_ (fun h => by simp at h) _
            refine Fr.setCell ?_ (fun h => by simp at h) _
            refine Fr.setCell ?_ (fun h => by simp at h) _
            exact HF2.out)
          have HW2 := Lib.hid (show Fr (fun k => k = w.heap.size) w2 (((((w2.setCell ⟨w.heap.size, 0, none⟩ (.int .i64 c)).setCell ⟨w.heap.size, 1, none⟩ (.bool false)).setCell ⟨w.heap.size, 2, none⟩ (.bool false)).setCell ⟨w.heap.size, 3, none⟩ (.int .i64 0)).setCell ⟨w.heap.size, 4, none⟩ (.slice none 0 0)) by
            refine Fr.setCell (S := fun k => k = w.heap.size) ?_ (fun _ => rfl) _
            refine Fr.setCell (S := fun k => k = w.heap.size) ?_ (fun _ => rfl) _
            refine Fr.setCell (S := fun k => k = w.heap.size) ?_ (fun _ => rfl) _
            refine Fr.setCell (S := fun k => k = w.heap.size) ?_ (fun _ => rfl) _
            refine Fr.setCell (S := fun k => k = w.heap.size) ?_ (fun _ => rfl) _
            exact Fr.refl _ _)
          generalize (((((w2.setCell ⟨w.heap.size, 0, none⟩ (.int .i64 c)).setCell ⟨w.heap.size, 1, none⟩ (.bool false)).setCell ⟨w.heap.size, 2, none⟩ (.bool false)).setCell ⟨w.heap.size, 3, none⟩ (.int .i64 0)).setCell ⟨w.heap.size, 4, none⟩ (.slice none 0 0)) = W at HW HW2 HK ⊢
          have k0 := HK.out.cell 0
          have k1 := HK.out.cell 1
          have k2 := HK.out.cell 2
          have k3 := HK.out.cell 3
          have k4 := HK.out.cell 4
          simp at k0 k1 k2 k3 k4
          exact bodyPost_ret (v := .agg #[(.int .i64 c), (.bool false), (.bool false), (.int .i64 0), (.slice none 0 0)]) (by simp [results, Try.results21, go_sem, k0, k1, k2, k3, k4]) rfl (AllR.ok ⟨c, false, false, 0, []⟩ (.slice none 0 0) (by simp only [parse, if_neg h2, if_neg h1]) rfl (Or.inl ⟨rfl, rfl⟩) (fun k hk => by cases hk) HW.out)
end Go.Proofs.Ytfkjonpbopoiaaa.ReplyJ
