/- Chapter 30: the walk of Decode. -/
import Derived.Test.YtfkjonpbopoiaaaReplyK
namespace Go.Proofs.Ytfkjonpbopoiaaa.ReplyL
open Go.RowKit Base Slices TrapA TrapB TrapG VintA VintB VintC VintD Quiet ReplyA ReplyB ReplyD ReplyE ReplyH ReplyI ReplyJ ReplyK
set_option linter.unusedVariables false
set_option linter.unusedSimpArgs false

theorem Rd.up {D D' g : Nat} {w : World} {b : List Int} (h : Rd D w g b) (hD : D ≤ D') : Rd D' w g b := by
  obtain ⟨s, h1, h2, h3⟩ := h
  exact ⟨s, h1, h2, fun k hk => ⟨(h3 k hk).1, Nat.lt_of_lt_of_le (h3 k hk).2 hD⟩⟩
theorem enters_all : Enters 21 := fun args w => by simp [go_sem]
theorem all_makes {w : World} {g : Nat} {b : List Int} {r : Rp} (hl : b.length ≤ 1000) (hb : Bytes b) (h : Rd w.heap.size w g b) (hp : parse b = some r) :
    Makes 21 (#[.pointer (some ⟨g, 0, none⟩)] ++ #[]) w (fun k => k = g) r := by
  intro W hW
  refine (all_any W (g := g) hl hb (Rd.up (h.fr hW) hW.size)).mono fun e w1 ha => ?_
  rcases ha with ⟨r', s, h1, h2, h3, h4, h5⟩ | ⟨h1, _⟩
  · rw [hp] at h1
    cases h1
    exact ⟨s, h2, h3, h4, h5⟩
  · rw [hp] at h1; cases h1
theorem all_throws {w : World} {g : Nat} {b : List Int} (hl : b.length ≤ 1000) (hb : Bytes b) (h : Rd w.heap.size w g b) (hp : parse b = none) :
    ∀ W, Fr Nil w W → Calls Try.prog 21 (#[.pointer (some ⟨g, 0, none⟩)] ++ #[]) W fun e w1 => e = .panicked [fault 0 (if b = [] then 1 else 8)] ∧ Fr (fun k => k = g) W w1 := by
  intro W hW
  refine (all_any W (g := g) hl hb (Rd.up (h.fr hW) hW.size)).mono fun e w1 ha => ?_
  rcases ha with ⟨r', s, h1, h2, h3, h4, h5⟩ | ⟨h1, h2, h3⟩
  · rw [hp] at h1; cases h1
  · exact ⟨h2, h3⟩

/-- what Decode tells -/
def Dec (b : List Int) (e : Ending) (w' : World) : Prop := (∃ r s, GoodR r ∧ encR r = b ∧ e = .returned (.tuple #[rv r s, .int .i64 0]) ∧ Sl EI w' s r.ids) ∨ ((∀ r, GoodR r → encR r ≠ b) ∧ e = .returned (.tuple #[.agg zeroR, .int .i64 8]))

set_option maxRecDepth 100000 in
set_option maxHeartbeats 8000000 in
theorem decode_any (w : World) {v : Value} {b : List Int} (hl : b.length ≤ 1000) (hb : Bytes b) (h : Sl EB w v b) :
    Calls Try.prog 11 #[v] w fun e w' => Dec b e w' ∧ Fr Nil w w' := by
  have hmf : ∀ (fn : Fn) (first cap : Array Value) (w : World), (Instr.makeFunc fn first cap).run Try.prog w = .ok (.func fn first cap) w := fun _ _ _ _ => rfl
  have G0 := Lib.hid (((Fr.refl Nil w).alloc (.cells zeroR 27)).alloc (.cells #[v] 44))
  obtain ⟨A, cp, hv⟩ := h.shape
  have hvb : ∀ k, v.ownBlock = some k → k < w.heap.size := by
    intro k hk
    rcases h with ⟨rfl, _⟩ | ⟨g2, o, cap, rfl, _, ha, _⟩
    · cases hk
    · simp [Value.ownBlock] at hk; omega
  have HR := Lib.hid (show Rd ((w.alloc (.cells zeroR 27)).alloc (.cells #[v] 44)).heap.size ((w.alloc (.cells zeroR 27)).alloc (.cells #[v] 44)) (w.heap.size + 1) b from ⟨v, new' (by simp), h.fr G0.out, fun k hk => by have := hvb k hk; simp; omega⟩)
  have HA := Lib.hid ((Bk.new w 27 zeroR).alloc (.cells #[v] 44))
  have HSb := Lib.hid h
  subst hv
  clear h hvb
  cases hp : parse b with
  | none =>
    have KV := Lib.hid (Value_bad (first := #[.pointer (some ⟨w.heap.size + 1, 0, none⟩)]) (cap := #[]) (S := fun k => k = w.heap.size + 1) (fun k hk => by simp; omega) enters_all (all_throws hl hb HR.out hp))
    have HNo := Lib.hid (show ∀ r, GoodR r → encR r ≠ b from fun r hg he => by rw [← he, parse_enc hg] at hp; cases hp)
    have hcne : ((if b = [] then (1 : Int) else 8) != 0) = true := by split <;> decide
    generalize (if b = [] then (1 : Int) else 8) = cc at KV hcne
    have hcne' : ¬ cc = 0 := by simpa using hcne
    clear hp
    go_enter Try.func11, Try.ntmps11
    go_wp2_with fail
    refine KV.out.mono ?_
    rintro e w1 ⟨rfl, hf⟩
    have HA1 := Lib.hid (HA.out.fr hf (by omega))
    have HF := Lib.hid (show Fr Nil w w1 from G0.out.then hf (fun k hk hlt => by omega))
    obtain ⟨a0, a1, a2, a3, a4, x0, x1, x2, x3, x4⟩ := HA1.out.c5
    have ha := HA1.out.lt
    clear hf
    go_wp2_with fail
    have HK := Lib.hid ((((((HA1.out.put 0 (.int .i64 0)).put 1 (.bool false)).put 2 (.bool false)).put 3 (.int .i64 0)).put 4 (.slice none 0 0)).alloc (.cells #[.int .i64 0, .bool false, .bool false, .int .i64 0, .slice none 0 0] 27))
    have HW := Lib.hid (show Fr Nil w ((((((w1.setCell ⟨w.heap.size, 0, none⟩ (.int .i64 0)).setCell ⟨w.heap.size, 1, none⟩ (.bool false)).setCell ⟨w.heap.size, 2, none⟩ (.bool false)).setCell ⟨w.heap.size, 3, none⟩ (.int .i64 0)).setCell ⟨w.heap.size, 4, none⟩ (.slice none 0 0)).alloc (.cells #[.int .i64 0, .bool false, .bool false, .int .i64 0, .slice none 0 0] 27)) by
      refine Fr.alloc ?_ _
      refine Fr.setCell ?_ (fun h => by simp at h) _
      refine Fr.setCell ?_ (fun h => by simp at h) _
      refine Fr.setCell ?_ (fun h => by simp at h) _
      refine Fr.setCell ?_ (fun h => by simp at h) _
      refine Fr.setCell ?_ (fun h => by simp at h) _
      exact HF.out)
    have HW2 := Lib.hid (show Fr (fun k => k = w.heap.size) w1 ((((((w1.setCell ⟨w.heap.size, 0, none⟩ (.int .i64 0)).setCell ⟨w.heap.size, 1, none⟩ (.bool false)).setCell ⟨w.heap.size, 2, none⟩ (.bool false)).setCell ⟨w.heap.size, 3, none⟩ (.int .i64 0)).setCell ⟨w.heap.size, 4, none⟩ (.slice none 0 0)).alloc (.cells #[.int .i64 0, .bool false, .bool false, .int .i64 0, .slice none 0 0] 27)) by
      refine Fr.alloc ?_ _
      refine Fr.setCell (S := fun k => k = w.heap.size) ?_ (fun _ => rfl) _
      refine Fr.setCell (S := fun k => k = w.heap.size) ?_ (fun _ => rfl) _
      refine Fr.setCell (S := fun k => k = w.heap.size) ?_ (fun _ => rfl) _
      refine Fr.setCell (S := fun k => k = w.heap.size) ?_ (fun _ => rfl) _
      refine Fr.setCell (S := fun k => k = w.heap.size) ?_ (fun _ => rfl) _
      exact Fr.refl _ _)
    generalize ((((((w1.setCell ⟨w.heap.size, 0, none⟩ (.int .i64 0)).setCell ⟨w.heap.size, 1, none⟩ (.bool false)).setCell ⟨w.heap.size, 2, none⟩ (.bool false)).setCell ⟨w.heap.size, 3, none⟩ (.int .i64 0)).setCell ⟨w.heap.size, 4, none⟩ (.slice none 0 0)).alloc (.cells #[.int .i64 0, .bool false, .bool false, .int .i64 0, .slice none 0 0] 27)) = W at HW HW2 HK ⊢
    have k0 := HK.out.cell 0
    have k1 := HK.out.cell 1
    have k2 := HK.out.cell 2
    have k3 := HK.out.cell 3
    have k4 := HK.out.cell 4
    simp at k0 k1 k2 k3 k4
    exact bodyPost_ret (v := .tuple #[.agg #[.int .i64 0, .bool false, .bool false, .int .i64 0, .slice none 0 0], .int .i64 8]) (by simp [results, Try.results11, go_sem, k0, k1, k2, k3, k4]) rfl ⟨Or.inr ⟨HNo.out, rfl⟩, HW.out⟩
  | some r =>
    have KV := Lib.hid (Value_ok (first := #[.pointer (some ⟨w.heap.size + 1, 0, none⟩)]) (cap := #[]) (S := fun k => k = w.heap.size + 1) (fun k hk => by simp; omega) enters_all (all_makes hl hb HR.out hp))
    have hrl : r.ids.length ≤ 1000 := Nat.le_trans (parse_len hp) hl
    have HNo := Lib.hid (show (¬ GoodR r ∨ encR r ≠ b) → ∀ r', GoodR r' → encR r' ≠ b from fun hor r' hg he => by
      have h1 := hp
      rw [← he, parse_enc hg] at h1
      cases h1
      rcases hor with h | h
      · exact h hg
      · exact h he)
    have KG := Lib.hid (fun W x (h : Rv W x r) => good_any W r x (by omega) h)
    have KE := Lib.hid (fun W x hg (h : Rv W x r) => encoded_any W r x hg hrl h)
    have KQ := Lib.hid (fun W u (hg : GoodR r) (h1 : Come EB W u (encR r)) (h2 : Come EB W (.slice A b.length cp) b) => equal_any W (encR r) b u (.slice A b.length cp) (encR_byte hg) hb h1 h2)
    clear hp
    obtain ⟨c, a, l, n0, L⟩ := r
    dsimp only at *
    unfold rv rc at *
    go_enter Try.func11, Try.ntmps11
    go_wp2_with fail
    refine KV.out.mono ?_
    rintro e w1 ⟨s, rfl, hs, hown, hf⟩
    have HOwn := Lib.hid (show ∀ k, s.ownBlock = some k → k ≠ w.heap.size from fun k hk => by have := hown k hk; simp at this; omega)
    clear hown
    have HA1 := Lib.hid ((HA.out.fr hf (by omega)).alloc (.cells #[.int .i64 c, .bool a, .bool l, .int .i64 n0, s] 27))
    have HF := Lib.hid (show Fr Nil w (w1.alloc (.cells #[.int .i64 c, .bool a, .bool l, .int .i64 n0, s] 27)) from (G0.out.then hf (fun k hk hlt => by omega)).alloc _)
    have HSl := Lib.hid (hs.fr ((Fr.refl Nil w1).alloc (.cells #[.int .i64 c, .bool a, .bool l, .int .i64 n0, s] 27)))
    have HO := Lib.hid (Bk.new w1 27 #[.int .i64 c, .bool a, .bool l, .int .i64 n0, s])
    obtain ⟨As, ks, rfl⟩ := hs.shape
    have ha1 := HA1.out.lt
    have hne : ¬ w1.heap.size = w.heap.size := by have := (HA.out.fr hf (by omega)).lt; omega
    clear hf hs
    go_wp2_with fail
    refine (KG.out _ _ ⟨_, rfl, HSl.out⟩).mono ?_
    rintro e w2 ⟨⟨gb, rfl, hgb⟩, hf2⟩
    have HA2 := Lib.hid (HA1.out.fr hf2 id)
    have HF2 := Lib.hid (HF.out.trans hf2)
    have HS2 := Lib.hid (HSl.out.fr hf2)
    have HO2 := Lib.hid (HO.out.fr hf2 id)
    have HGB := Lib.hid hgb
    obtain ⟨a0, a1, a2, a3, a4, x0, x1, x2, x3, x4⟩ := HA2.out.c5
    obtain ⟨o0, o1, o2, o3, o4, _⟩ := HO2.out.c5
    clear hf2 hgb
    cases gb with
    | false =>
      go_wp2_with fail
      have HK := Lib.hid (((((HA2.out.put 0 (.int .i64 0)).put 1 (.bool false)).put 2 (.bool false)).put 3 (.int .i64 0)).put 4 (.slice none 0 0))
      have HW := Lib.hid (show Fr Nil w (((((w2.setCell ⟨w.heap.size, 0, none⟩ (.int .i64 0)).setCell ⟨w.heap.size, 1, none⟩ (.bool false)).setCell ⟨w.heap.size, 2, none⟩ (.bool false)).setCell ⟨w.heap.size, 3, none⟩ (.int .i64 0)).setCell ⟨w.heap.size, 4, none⟩ (.slice none 0 0)) by
        refine Fr.setCell ?_ (fun h => by simp at h) _
        refine Fr.setCell ?_ (fun h => by simp at h) _
        refine Fr.setCell ?_ (fun h => by simp at h) _
        refine Fr.setCell ?_ (fun h => by simp at h) _
        refine Fr.setCell ?_ (fun h => by simp at h) _
        exact HF2.out)
      have HW2 := Lib.hid (show Fr (fun k => k = w.heap.size) w2 (((((w2.setCell ⟨w.heap.size, 0, none⟩ (.int .i64 0)).setCell ⟨w.heap.size, 1, none⟩ (.bool false)).setCell ⟨w.heap.size, 2, none⟩ (.bool false)).setCell ⟨w.heap.size, 3, none⟩ (.int .i64 0)).setCell ⟨w.heap.size, 4, none⟩ (.slice none 0 0)) by
        refine Fr.setCell (S := fun k => k = w.heap.size) ?_ (fun _ => rfl) _
        refine Fr.setCell (S := fun k => k = w.heap.size) ?_ (fun _ => rfl) _
        refine Fr.setCell (S := fun k => k = w.heap.size) ?_ (fun _ => rfl) _
        refine Fr.setCell (S := fun k => k = w.heap.size) ?_ (fun _ => rfl) _
        refine Fr.setCell (S := fun k => k = w.heap.size) ?_ (fun _ => rfl) _
        exact Fr.refl _ _)
      generalize (((((w2.setCell ⟨w.heap.size, 0, none⟩ (.int .i64 0)).setCell ⟨w.heap.size, 1, none⟩ (.bool false)).setCell ⟨w.heap.size, 2, none⟩ (.bool false)).setCell ⟨w.heap.size, 3, none⟩ (.int .i64 0)).setCell ⟨w.heap.size, 4, none⟩ (.slice none 0 0)) = W at HW HW2 HK ⊢
      have k0 := HK.out.cell 0
      have k1 := HK.out.cell 1
      have k2 := HK.out.cell 2
      have k3 := HK.out.cell 3
      have k4 := HK.out.cell 4
      simp at k0 k1 k2 k3 k4
      exact bodyPost_ret (v := .tuple #[.agg #[.int .i64 0, .bool false, .bool false, .int .i64 0, .slice none 0 0], .int .i64 8]) (by simp [results, Try.results11, go_sem, k0, k1, k2, k3, k4]) rfl ⟨Or.inr ⟨HNo.out (Or.inl (fun hg => by have := HGB.out.2 hg; cases this)), rfl⟩, HW.out⟩
    | true =>
      have hg := HGB.out.1 (by trivial)
      have HG := Lib.hid hg
      go_wp2_with fail
      refine (KE.out _ _ HG.out ⟨_, rfl, HS2.out⟩).mono ?_
      rintro e w3 ⟨u, rfl, hf3, ho⟩
      have HU := Lib.hid (ho.sl EB_ok).come
      have HA3 := Lib.hid (HA2.out.fr hf3 id)
      have HF3 := Lib.hid (HF2.out.trans hf3)
      have HS3 := Lib.hid (HS2.out.fr hf3)
      have HO3 := Lib.hid (HO2.out.fr hf3 id)
      clear hf3 ho
      by_cases he : encR ⟨c, a, l, n0, L⟩ = b
      · have KQ1 := Lib.hid (KQ.out w3 u HG.out HU.out (HSb.out.fr HF3.out).come)
        rw [decide_eq_true he] at KQ1
        have HE := Lib.hid he
        clear he
        go_wp2_with fail
        refine KQ1.out.mono ?_
        rintro e w4 ⟨rfl, hf4⟩
        have HA4 := Lib.hid (HA3.out.fr hf4 id)
        have HF4 := Lib.hid (HF3.out.trans hf4)
        have HS4 := Lib.hid (HS3.out.fr hf4)
        have HO4 := Lib.hid (HO3.out.fr hf4 id)
        obtain ⟨a0, a1, a2, a3, a4, x0, x1, x2, x3, x4⟩ := HA4.out.c5
        obtain ⟨o0, o1, o2, o3, o4, _⟩ := HO4.out.c5
        clear hf4
        go_wp2_with fail
        have HK := Lib.hid (((((HA4.out.put 0 (.int .i64 c)).put 1 (.bool a)).put 2 (.bool l)).put 3 (.int .i64 n0)).put 4 (.slice As L.length ks))
        have HW := Lib.hid (show Fr Nil w (((((w4.setCell ⟨w.heap.size, 0, none⟩ (.int .i64 c)).setCell ⟨w.heap.size, 1, none⟩ (.bool a)).setCell ⟨w.heap.size, 2, none⟩ (.bool l)).setCell ⟨w.heap.size, 3, none⟩ (.int .i64 n0)).setCell ⟨w.heap.size, 4, none⟩ (.slice As L.length ks)) by
          refine Fr.setCell ?_ (fun h => by simp at h) _
          refine Fr.setCell ?_ (fun h => by simp at h) _
          refine Fr.setCell ?_ (fun h => by simp at h) _
          refine Fr.setCell ?_ (fun h => by simp at h) _
          refine Fr.setCell ?_ (fun h => by simp at h) _
          exact HF4.out)
        have HW2 := Lib.hid (show Fr (fun k => k = w.heap.size) w4 (((((w4.setCell ⟨w.heap.size, 0, none⟩ (.int .i64 c)).setCell ⟨w.heap.size, 1, none⟩ (.bool a)).setCell ⟨w.heap.size, 2, none⟩ (.bool l)).setCell ⟨w.heap.size, 3, none⟩ (.int .i64 n0)).setCell ⟨w.heap.size, 4, none⟩ (.slice As L.length ks)) by
          refine Fr.setCell (S := fun k => k = w.heap.size) ?_ (fun _ => rfl) _
          refine Fr.setCell (S := fun k => k = w.heap.size) ?_ (fun _ => rfl) _
          refine Fr.setCell (S := fun k => k = w.heap.size) ?_ (fun _ => rfl) _
          refine Fr.setCell (S := fun k => k = w.heap.size) ?_ (fun _ => rfl) _
          refine Fr.setCell (S := fun k => k = w.heap.size) ?_ (fun _ => rfl) _
          exact Fr.refl _ _)
        generalize (((((w4.setCell ⟨w.heap.size, 0, none⟩ (.int .i64 c)).setCell ⟨w.heap.size, 1, none⟩ (.bool a)).setCell ⟨w.heap.size, 2, none⟩ (.bool l)).setCell ⟨w.heap.size, 3, none⟩ (.int .i64 n0)).setCell ⟨w.heap.size, 4, none⟩ (.slice As L.length ks)) = W at HW HW2 HK ⊢
        have k0 := HK.out.cell 0
        have k1 := HK.out.cell 1
        have k2 := HK.out.cell 2
        have k3 := HK.out.cell 3
        have k4 := HK.out.cell 4
        simp at k0 k1 k2 k3 k4
        exact bodyPost_ret (v := .tuple #[.agg #[.int .i64 c, .bool a, .bool l, .int .i64 n0, .slice As L.length ks], .int .i64 0]) (by simp [results, Try.results11, go_sem, k0, k1, k2, k3, k4]) rfl ⟨Or.inl ⟨_, _, HG.out, HE.out, rfl, HS4.out.frS HW2.out (fun k hk hs => HOwn.out k hk hs)⟩, HW.out⟩
      · have KQ1 := Lib.hid (KQ.out w3 u HG.out HU.out (HSb.out.fr HF3.out).come)
        rw [decide_eq_false he] at KQ1
        have HE := Lib.hid he
        clear he
        go_wp2_with fail
        refine KQ1.out.mono ?_
        rintro e w4 ⟨rfl, hf4⟩
        have HA4 := Lib.hid (HA3.out.fr hf4 id)
        have HF4 := Lib.hid (HF3.out.trans hf4)
        obtain ⟨a0, a1, a2, a3, a4, x0, x1, x2, x3, x4⟩ := HA4.out.c5
        clear hf4
        go_wp2_with fail
        have HK := Lib.hid (((((HA4.out.put 0 (.int .i64 0)).put 1 (.bool false)).put 2 (.bool false)).put 3 (.int .i64 0)).put 4 (.slice none 0 0))
        have HW := Lib.hid (show Fr Nil w (((((w4.setCell ⟨w.heap.size, 0, none⟩ (.int .i64 0)).setCell ⟨w.heap.size, 1, none⟩ (.bool false)).setCell ⟨w.heap.size, 2, none⟩ (.bool false)).setCell ⟨w.heap.size, 3, none⟩ (.int .i64 0)).setCell ⟨w.heap.size, 4, none⟩ (.slice none 0 0)) by
          refine Fr.setCell ?_ (fun h => by simp at h) _
          refine Fr.setCell ?_ (fun h => by simp at h) _
          refine Fr.setCell ?_ (fun h => by simp at h) _
          refine Fr.setCell ?_ (fun h => by simp at h) _
          refine Fr.setCell ?_ (fun h => by simp at h) _
          exact HF4.out)
        have HW2 := Lib.hid (show Fr (fun k => k = w.heap.size) w4 (((((w4.setCell ⟨w.heap.size, 0, none⟩ (.int .i64 0)).setCell ⟨w.heap.size, 1, none⟩ (.bool false)).setCell ⟨w.heap.size, 2, none⟩ (.bool false)).setCell ⟨w.heap.size, 3, none⟩ (.int .i64 0)).setCell ⟨w.heap.size, 4, none⟩ (.slice none 0 0)) by
          refine Fr.setCell (S := fun k => k = w.heap.size) ?_ (fun _ => rfl) _
          refine Fr.setCell (S := fun k => k = w.heap.size) ?_ (fun _ => rfl) _
          refine Fr.setCell (S := fun k => k = w.heap.size) ?_ (fun _ => rfl) _
          refine Fr.setCell (S := fun k => k = w.heap.size) ?_ (fun _ => rfl) _
          refine Fr.setCell (S := fun k => k = w.heap.size) ?_ (fun _ => rfl) _
          exact Fr.refl _ _)
        generalize (((((w4.setCell ⟨w.heap.size, 0, none⟩ (.int .i64 0)).setCell ⟨w.heap.size, 1, none⟩ (.bool false)).setCell ⟨w.heap.size, 2, none⟩ (.bool false)).setCell ⟨w.heap.size, 3, none⟩ (.int .i64 0)).setCell ⟨w.heap.size, 4, none⟩ (.slice none 0 0)) = W at HW HW2 HK ⊢
        have k0 := HK.out.cell 0
        have k1 := HK.out.cell 1
        have k2 := HK.out.cell 2
        have k3 := HK.out.cell 3
        have k4 := HK.out.cell 4
        simp at k0 k1 k2 k3 k4
        exact bodyPost_ret (v := .tuple #[.agg #[.int .i64 0, .bool false, .bool false, .int .i64 0, .slice none 0 0], .int .i64 8]) (by simp [results, Try.results11, go_sem, k0, k1, k2, k3, k4]) rfl ⟨Or.inr ⟨HNo.out (Or.inr HE.out), rfl⟩, HW.out⟩
end Go.Proofs.Ytfkjonpbopoiaaa.ReplyL
