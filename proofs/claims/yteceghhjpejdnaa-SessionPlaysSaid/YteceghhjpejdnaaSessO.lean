/- Chapter 32: one act on a session and on the reference's. -/
import Derived.Test.YteceghhjpejdnaaSessN
import Derived.Test.YteceghhjpejdnaaSessL
import Derived.Test.YteceghhjpejdnaaSessJ
import Derived.Test.YteceghhjpejdnaaCodecI
namespace Go.Proofs.Yteceghhjpejdnaa.SessO
open Go.RowKit Base Big Slices TrapA TrapB TrapG CodecA CodecB CodecC CodecI CodecK SessA SessB SessC SessD SessE SessF SessG SessH SessJ SessL SessN
set_option linter.unusedVariables false
set_option linter.unusedSimpArgs false

/-- what holds of a session at any time -/
def Inv (p : Int) (r : Rq) (t b : Int) : Prop := 0 ≤ p ∧ p ≤ 4 ∧ (p = 0 ∨ p = 4 → r = zQ) ∧ (p = 1 → t < b) ∧ 0 ≤ t ∧ t ≤ b ∧ b ≤ 1000
theorem Inv.new {b : Int} (h0 : 0 ≤ b) (h1 : b ≤ 1000) : Inv 0 zQ 0 b := ⟨by omega, by omega, fun _ => rfl, fun h => by omega, by omega, h0, h1⟩
theorem same_s {w w' : World} {g : Nat} {p : Int} {r : Rq} {t b : Int} (h : Ss w g p r t b) (hf : Fr Nil w w') : Fr (fun k => k = g) w w' ∧ Ss w' g p r t b := ⟨hf.of_nil, Bk.fr h hf id⟩
theorem same_r {w w' : World} {x : Nat} {p : Int} {r : Rq} {t b : Int} (h : Rs w x p r t b) (hf : Fr Nil w w') : Fr (fun k => k = x) w w' ∧ Rs w' x p r t b := ⟨hf.of_nil, Bk.fr h hf id⟩

theorem fail_step {p : Int} {r : Rq} {t b : Int} (hI : Inv p r t b) : ∃ (c : Int) (p' : Int) (r' : Rq) (t' : Int),
      (∀ w g, Ss w g p r t b → Calls Try.prog 11 #[.pointer (some ⟨g, 0, none⟩)] w fun e w' => e = .returned (.int .i64 c) ∧ Fr (fun k => k = g) w w' ∧ Ss w' g p' r' t' b) ∧
      (∀ w x, Rs w x p r t b → Calls Try.prog 21 #[.pointer (some ⟨x, 0, none⟩)] w fun e w' => e = .returned (.int .i64 c) ∧ Fr (fun k => k = x) w w' ∧ Rs w' x p' r' t' b) ∧ Inv p' r' t' b ∧ (p' = p ∨ p' ∈ nxt p) := by
  by_cases h : p = 1
  · subst h
    obtain ⟨h1, h2, h3, h4, h5, h6, h7⟩ := hI
    have h8 := h4 rfl
    refine ⟨0, fphase t b, r, t + 1, fun w g hs => Fail_ok w hs h5 (by omega), fun w x hr => rfail_ok w hr h5 (by omega) h8, ?_, ?_⟩
    · unfold fphase
      split
      · exact ⟨by omega, by omega, fun h => by omega, fun h => by omega, by omega, by omega, h7⟩
      · exact ⟨by omega, by omega, fun h => by omega, fun h => by omega, by omega, by omega, h7⟩
    · unfold fphase
      split
      · exact Or.inr (by simp [nxt])
      · exact Or.inl rfl
  · exact ⟨10, p, r, t, fun w g hs => (Fail_bad w hs h).mono fun e w' hh => ⟨hh.1, same_s hs hh.2⟩, fun w x hr => (rfail_bad w hr h).mono fun e w' hh => ⟨hh.1, same_r hr hh.2⟩, hI, Or.inl rfl⟩
theorem grant_step {p : Int} {r : Rq} {t b : Int} (hI : Inv p r t b) : ∃ (c : Int) (p' : Int) (r' : Rq) (t' : Int),
      (∀ w g, Ss w g p r t b → Calls Try.prog 22 #[.pointer (some ⟨g, 0, none⟩)] w fun e w' => e = .returned (.int .i64 c) ∧ Fr (fun k => k = g) w w' ∧ Ss w' g p' r' t' b) ∧
      (∀ w x, Rs w x p r t b → Calls Try.prog 23 #[.pointer (some ⟨x, 0, none⟩)] w fun e w' => e = .returned (.int .i64 c) ∧ Fr (fun k => k = x) w w' ∧ Rs w' x p' r' t' b) ∧ Inv p' r' t' b ∧ (p' = p ∨ p' ∈ nxt p) := by
  by_cases h : p = 2
  · subst h
    obtain ⟨h1, h2, h3, h4, h5, h6, h7⟩ := hI
    exact ⟨0, 3, r, t, fun w g hs => Grant_ok w hs, fun w x hr => rgrant_ok w hr, ⟨by omega, by omega, fun h => by omega, fun h => by omega, h5, h6, h7⟩, Or.inr (by simp [nxt])⟩
  · exact ⟨10, p, r, t, fun w g hs => (Grant_bad w hs h).mono fun e w' hh => ⟨hh.1, same_s hs hh.2⟩, fun w x hr => (rgrant_bad w hr h).mono fun e w' hh => ⟨hh.1, same_r hr hh.2⟩, hI, Or.inl rfl⟩
theorem finish_step {p : Int} {r : Rq} {t b : Int} (hI : Inv p r t b) : ∃ (z : Rq) (c : Int) (p' : Int) (r' : Rq) (t' : Int),
      (∀ w g, Ss w g p r t b → Calls Try.prog 24 #[.pointer (some ⟨g, 0, none⟩)] w fun e w' => e = .returned (.tuple #[.agg (qc z), .int .i64 c]) ∧ Fr (fun k => k = g) w w' ∧ Ss w' g p' r' t' b) ∧
      (∀ w x, Rs w x p r t b → Calls Try.prog 25 #[.pointer (some ⟨x, 0, none⟩)] w fun e w' => e = .returned (.tuple #[.agg (qc z), .int .i64 c]) ∧ Fr (fun k => k = x) w w' ∧ Rs w' x p' r' t' b) ∧ Inv p' r' t' b ∧ (p' = p ∨ p' ∈ nxt p) := by
  by_cases h : p ∈ [1, 3]
  · obtain ⟨h1, h2, h3, h4, h5, h6, h7⟩ := hI
    refine ⟨r, 0, 0, zQ, t, fun w g hs => Finish_ok w hs h, fun w x hr => rfinish_ok w hr h, ⟨by omega, by omega, fun _ => rfl, fun h => by omega, h5, h6, h7⟩, Or.inr ?_⟩
    simp at h
    rcases h with rfl | rfl <;> simp [nxt]
  · have h' : p ≠ 1 ∧ p ≠ 3 := by simpa using h
    exact ⟨zQ, 10, p, r, t, fun w g hs => (Finish_bad w hs h).mono fun e w' hh => ⟨hh.1, same_s hs hh.2⟩, fun w x hr => (rfinish_bad w hr h'.1 h'.2).mono fun e w' hh => ⟨hh.1, same_r hr hh.2⟩, hI, Or.inl rfl⟩
theorem abort_step {p : Int} {r : Rq} {t b : Int} (hI : Inv p r t b) : ∃ (z : Rq) (c : Int) (p' : Int) (r' : Rq) (t' : Int),
      (∀ w g, Ss w g p r t b → Calls Try.prog 26 #[.pointer (some ⟨g, 0, none⟩)] w fun e w' => e = .returned (.tuple #[.agg (qc z), .int .i64 c]) ∧ Fr (fun k => k = g) w w' ∧ Ss w' g p' r' t' b) ∧
      (∀ w x, Rs w x p r t b → Calls Try.prog 27 #[.pointer (some ⟨x, 0, none⟩)] w fun e w' => e = .returned (.tuple #[.agg (qc z), .int .i64 c]) ∧ Fr (fun k => k = x) w w' ∧ Rs w' x p' r' t' b) ∧ Inv p' r' t' b ∧ (p' = p ∨ p' ∈ nxt p) := by
  obtain ⟨h1, h2, h3, h4, h5, h6, h7⟩ := hI
  have hI' : Inv 4 zQ t b := ⟨by omega, by omega, fun _ => rfl, fun h => by omega, h5, h6, h7⟩
  by_cases e4 : p = 4
  · subst e4
    obtain rfl := h3 (Or.inr rfl)
    exact ⟨zQ, 0, 4, zQ, t, fun w g hs => (abort_gone w hs).mono fun e w' hh => ⟨hh.1, same_s hs hh.2⟩, fun w x hr => rabort_z4 w hr, hI', Or.inl rfl⟩
  by_cases e0 : p = 0
  · subst e0
    obtain rfl := h3 (Or.inl rfl)
    exact ⟨zQ, 0, 4, zQ, t, fun w g hs => abort_any w hs e4, fun w x hr => rabort_z0 w hr, hI', Or.inr (by simp [nxt])⟩
  refine ⟨r, p, 4, zQ, t, fun w g hs => abort_any w hs e4, fun w x hr => rabort_any w hr e0 e4, hI', Or.inr ?_⟩
  have : p = 1 ∨ p = 2 ∨ p = 3 := by omega
  rcases this with rfl | rfl | rfl <;> simp [nxt]
theorem fst_or (q : Rq) (b : Int) : (fst q b = 1 ∧ 0 < b) ∨ fst q b = 2 := by
  unfold fst
  split
  · rename_i h; exact Or.inl ⟨rfl, h.2⟩
  · exact Or.inr rfl
theorem start_step {p : Int} {r : Rq} {t b : Int} (q : Rq) (hI : Inv p r t b) : ∃ (c : Int) (p' : Int) (r' : Rq) (t' : Int),
      (∀ w g, Ss w g p r t b → Calls Try.prog 7 #[.pointer (some ⟨g, 0, none⟩), .agg (qc q)] w fun e w' => e = .returned (.int .i64 c) ∧ Fr (fun k => k = g) w w' ∧ Ss w' g p' r' t' b) ∧
      (∀ w x, Rs w x p r t b → Calls Try.prog 28 #[.pointer (some ⟨x, 0, none⟩), .agg (qc q)] w fun e w' => e = .returned (.int .i64 c) ∧ Fr (fun k => k = x) w w' ∧ Rs w' x p' r' t' b) ∧ Inv p' r' t' b ∧ (p' = p ∨ p' ∈ nxt p) := by
  have hI0 := hI
  obtain ⟨h1, h2, h3, h4, h5, h6, h7⟩ := hI
  by_cases e4 : p = 4
  · subst e4
    exact ⟨10, 4, r, t, fun w g hs => (Start_bad w hs (fun W hW => start_gone W hW (by simp))).mono fun e w' hh => ⟨hh.1, same_s hs hh.2⟩, fun w x hr => (rstart_gone w hr).mono fun e w' hh => ⟨hh.1, same_r hr hh.2⟩, hI0, Or.inl rfl⟩
  have hp : p ∈ [0, 1, 2, 3] := by simp; omega
  by_cases gq : GoodQ q
  · by_cases e0 : p = 0
    · subst e0
      refine ⟨0, fst q b, onlyQ q, 0, fun w g hs => Start_ok w hs gq, fun w x hr => rstart_ok w hr gq, ?_, ?_⟩
      · rcases fst_or q b with ⟨h, hb⟩ | h
        · rw [h]; exact ⟨by omega, by omega, fun h => by omega, fun h => hb, by omega, by omega, h7⟩
        · rw [h]; exact ⟨by omega, by omega, fun h => by omega, fun h => by omega, by omega, by omega, h7⟩
      · rcases fst_or q b with ⟨h, hb⟩ | h <;> rw [h] <;> exact Or.inr (by simp [nxt])
    · exact ⟨7, p, r, t, fun w g hs => (Start_bad w hs (fun W hW => start_busy W hW hp e0 gq)).mono fun e w' hh => ⟨hh.1, same_s hs hh.2⟩, fun w x hr => (rstart_busy w hr e4 e0 gq).mono fun e w' hh => ⟨hh.1, same_r hr hh.2⟩, hI0, Or.inl rfl⟩
  · exact ⟨8, p, r, t, fun w g hs => (Start_bad w hs (fun W hW => start_form W hW hp gq)).mono fun e w' hh => ⟨hh.1, same_s hs hh.2⟩, fun w x hr => (rstart_form w hr e4 gq).mono fun e w' hh => ⟨hh.1, same_r hr hh.2⟩, hI0, Or.inl rfl⟩

/-- an act: its kind, its request -/
def ac (k : Int) (r : Rq) : Array Value := #[.int .i64 k, .int .i64 r.k, .int .i64 r.ck, .int .i64 r.p0, .int .i64 r.p1, .int .i64 r.p2, .int .i64 r.s0, .int .i64 r.s1, .int .i64 r.s2, .int .i64 r.qk, .int .i64 r.x1, .int .i64 r.x2, .int .i64 r.y1, .int .i64 r.y2, .int .i64 r.v1, .int .i64 r.v2, .int .i64 r.v3, .int .i64 r.x, .int .i64 r.h]
theorem midA {w : World} {m : Nat} {k : Int} {r : Rq} {T : TypeId} (h : Bk w m T (ac k r)) : w.rangeAt m 1 (qc r).toList := fun j v hv => by
  have hj : j < 18 := by
    have := (List.getElem?_eq_some_iff.1 hv).1
    simpa [qc] using this
  have h' : j = 0 ∨ j = 1 ∨ j = 2 ∨ j = 3 ∨ j = 4 ∨ j = 5 ∨ j = 6 ∨ j = 7 ∨ j = 8 ∨ j = 9 ∨ j = 10 ∨ j = 11 ∨ j = 12 ∨ j = 13 ∨ j = 14 ∨ j = 15 ∨ j = 16 ∨ j = 17 := by omega
  rcases h' with rfl | rfl | rfl | rfl | rfl | rfl | rfl | rfl | rfl | rfl | rfl | rfl | rfl | rfl | rfl | rfl | rfl | rfl <;> exact (h.cell _).trans hv
theorem yields_loadA {m : Nat} {k : Int} {r : Rq} {T : TypeId} {ops : Array Oper} {S : World → Prop} {a : Act} {dst : Option Tmp} {y : Operand} {ty : TypeId} {pos : String} {aft : Array Edge} {gd : Option (Nat × Bool)}
    (hw : Region.wanted ⟨dst, .load 40 y, ty, pos, aft, gd⟩ (yielded ops a.tmps) = true) (hx : a.eval y = .pointer (some ⟨m, 1, none⟩)) (hS : ∀ w, S w → Bk w m T (ac k r)) : YieldsIf Try.prog ops S ⟨dst, .load 40 y, ty, pos, aft, gd⟩ (.agg (qc r)) a := by
  obtain ⟨⟨fs, hu⟩, hi⟩ := Try.req_str
  exact yieldsIf_load_mid hw 40 y rfl m 1 hx (qc r).toList _ (fun w h => midA (hS w h)) hu rfl hi
/-- '==' of a request with itself in a plain region -/
theorem wpList_eqS {w : World} {q : Rq} {ops : Array Oper} {rest : List Oper} {a : Act} {Q : Exit → Act → World → Prop} {dst : Option Tmp} {x y : Operand} {ty t2 : TypeId} {pos : String} {aft : Array Edge}
    (hx : a.eval x = .agg (qc q)) (hy : a.eval y = .agg (qc q)) (h : wpList Try.prog ops Q rest (a.put dst (.bool true)) w) : wpList Try.prog ops Q (⟨dst, .binOp .eql 40 x y t2, ty, pos, aft, none⟩ :: rest) a w :=
  wpList_plain rfl fun K hK => by
    unfold Oper.wp
    rw [exec_eq w a q q hx hy, decide_eq_true rfl]
    exact hK _ _ h

/-- what one act leaves -/
def Post (w w' : World) (g x : Nat) (p b : Int) : Prop := Fr (fun k => k = g ∨ k = x) w w' ∧ ∃ (p' : Int) (r' : Rq) (t' : Int), Ss w' g p' r' t' b ∧ Rs w' x p' r' t' b ∧ Inv p' r' t' b ∧ (p' = p ∨ p' ∈ nxt p)
section
variable (w : World)
theorem does_1 {g x : Nat} {p : Int} {r : Rq} {t b : Int} (hS : Ss w g p r t b) (hR : Rs w x p r t b) (hI : Inv p r t b) (hgx : g ≠ x) (q : Rq) :
    Calls Try.prog 14 #[.pointer (some ⟨g, 0, none⟩), .pointer (some ⟨x, 0, none⟩), .agg (ac 1 q)] w fun e w' => e = .returned (.bool true) ∧ Post w w' g x p b := by
  obtain ⟨c, p', r', t', k1, k2, hI', hn'⟩ := fail_step hI
  have K1 := Lib.hid k1
  have K2 := Lib.hid k2
  have HI := Lib.hid hI'
  have HNX := Lib.hid hn'
  have hg := hS.lt
  have hx := hR.lt
  have HGX := Lib.hid hgx
  have HA := Lib.hid (Bk.new w 57 (ac 1 q))
  have HS := Lib.hid (hS.alloc (.cells (ac 1 q) 57))
  have HR := Lib.hid (hR.alloc (.cells (ac 1 q) 57))
  have G0 := Lib.hid ((Fr.refl (fun k => k = g ∨ k = x) w).alloc (.cells (ac 1 q) 57))
  have c0 : (w.alloc (.cells (ac 1 q) 57)).cell? ⟨w.heap.size, 0, none⟩ = some (.int .i64 1) := HA.out.cell 0
  clear k1 k2 hI hI' hn' hS hR hgx
  go_enter Try.func14, Try.ntmps14
  go_wp2_with fail
  refine (K1.out _ _ HS.out).mono ?_
  rintro e w1 ⟨rfl, hf1, hs1⟩
  have HS1 := Lib.hid hs1
  have HR1 := Lib.hid (HR.out.fr hf1 (fun e => HGX.out e.symm))
  have HF1 := Lib.hid (G0.out.trans (hf1.mono fun k hk _ => Or.inl hk))
  clear hf1 hs1
  go_wp2_with fail
  refine (K2.out _ _ HR1.out).mono ?_
  rintro e w2 ⟨rfl, hf2, hr2⟩
  have HR2 := Lib.hid hr2
  have HS2 := Lib.hid (HS1.out.fr hf2 HGX.out)
  have HF2 := Lib.hid (HF1.out.trans (hf2.mono fun k hk _ => Or.inr hk))
  clear hf2 hr2
  go_wp2_with fail
  go_ret
  exact ⟨rfl, HF2.out, p', r', t', HS2.out, HR2.out, HI.out, HNX.out⟩
theorem does_2 {g x : Nat} {p : Int} {r : Rq} {t b : Int} (hS : Ss w g p r t b) (hR : Rs w x p r t b) (hI : Inv p r t b) (hgx : g ≠ x) (q : Rq) :
    Calls Try.prog 14 #[.pointer (some ⟨g, 0, none⟩), .pointer (some ⟨x, 0, none⟩), .agg (ac 2 q)] w fun e w' => e = .returned (.bool true) ∧ Post w w' g x p b := by
  obtain ⟨c, p', r', t', k1, k2, hI', hn'⟩ := grant_step hI
  have K1 := Lib.hid k1
  have K2 := Lib.hid k2
  have HI := Lib.hid hI'
  have HNX := Lib.hid hn'
  have hg := hS.lt
  have hx := hR.lt
  have HGX := Lib.hid hgx
  have HA := Lib.hid (Bk.new w 57 (ac 2 q))
  have HS := Lib.hid (hS.alloc (.cells (ac 2 q) 57))
  have HR := Lib.hid (hR.alloc (.cells (ac 2 q) 57))
  have G0 := Lib.hid ((Fr.refl (fun k => k = g ∨ k = x) w).alloc (.cells (ac 2 q) 57))
  have c0 : (w.alloc (.cells (ac 2 q) 57)).cell? ⟨w.heap.size, 0, none⟩ = some (.int .i64 2) := HA.out.cell 0
  clear k1 k2 hI hI' hn' hS hR hgx
  go_enter Try.func14, Try.ntmps14
  go_wp2_with fail
  refine (K1.out _ _ HS.out).mono ?_
  rintro e w1 ⟨rfl, hf1, hs1⟩
  have HS1 := Lib.hid hs1
  have HR1 := Lib.hid (HR.out.fr hf1 (fun e => HGX.out e.symm))
  have HF1 := Lib.hid (G0.out.trans (hf1.mono fun k hk _ => Or.inl hk))
  clear hf1 hs1
  go_wp2_with fail
  refine (K2.out _ _ HR1.out).mono ?_
  rintro e w2 ⟨rfl, hf2, hr2⟩
  have HR2 := Lib.hid hr2
  have HS2 := Lib.hid (HS1.out.fr hf2 HGX.out)
  have HF2 := Lib.hid (HF1.out.trans (hf2.mono fun k hk _ => Or.inr hk))
  clear hf2 hr2
  go_wp2_with fail
  go_ret
  exact ⟨rfl, HF2.out, p', r', t', HS2.out, HR2.out, HI.out, HNX.out⟩
theorem does_3 {g x : Nat} {p : Int} {r : Rq} {t b : Int} (hS : Ss w g p r t b) (hR : Rs w x p r t b) (hI : Inv p r t b) (hgx : g ≠ x) (q : Rq) :
    Calls Try.prog 14 #[.pointer (some ⟨g, 0, none⟩), .pointer (some ⟨x, 0, none⟩), .agg (ac 3 q)] w fun e w' => e = .returned (.bool true) ∧ Post w w' g x p b := by
  obtain ⟨z, c, p', r', t', k1, k2, hI', hn'⟩ := finish_step hI
  have K1 := Lib.hid k1
  have K2 := Lib.hid k2
  have HI := Lib.hid hI'
  have HNX := Lib.hid hn'
  have hg := hS.lt
  have hx := hR.lt
  have HGX := Lib.hid hgx
  have HA := Lib.hid (Bk.new w 57 (ac 3 q))
  have HS := Lib.hid (hS.alloc (.cells (ac 3 q) 57))
  have HR := Lib.hid (hR.alloc (.cells (ac 3 q) 57))
  have G0 := Lib.hid ((Fr.refl (fun k => k = g ∨ k = x) w).alloc (.cells (ac 3 q) 57))
  have c0 : (w.alloc (.cells (ac 3 q) 57)).cell? ⟨w.heap.size, 0, none⟩ = some (.int .i64 3) := HA.out.cell 0
  clear k1 k2 hI hI' hn' hS hR hgx
  go_enter Try.func14, Try.ntmps14
  go_wp2_with fail
  refine (K1.out _ _ HS.out).mono ?_
  rintro e w1 ⟨rfl, hf1, hs1⟩
  have HS1 := Lib.hid (hs1.alloc (.cells #[.int .i64 0, .int .i64 0, .int .i64 0, .int .i64 0, .int .i64 0, .int .i64 0, .int .i64 0, .int .i64 0, .int .i64 0, .int .i64 0, .int .i64 0, .int .i64 0, .int .i64 0, .int .i64 0, .int .i64 0, .int .i64 0, .int .i64 0, .int .i64 0] 40))
  have HR1 := Lib.hid ((HR.out.fr hf1 (fun e => HGX.out e.symm)).alloc (.cells #[.int .i64 0, .int .i64 0, .int .i64 0, .int .i64 0, .int .i64 0, .int .i64 0, .int .i64 0, .int .i64 0, .int .i64 0, .int .i64 0, .int .i64 0, .int .i64 0, .int .i64 0, .int .i64 0, .int .i64 0, .int .i64 0, .int .i64 0, .int .i64 0] 40))
  have HF1 := Lib.hid ((G0.out.trans (hf1.mono fun k hk _ => Or.inl hk)).alloc (.cells #[.int .i64 0, .int .i64 0, .int .i64 0, .int .i64 0, .int .i64 0, .int .i64 0, .int .i64 0, .int .i64 0, .int .i64 0, .int .i64 0, .int .i64 0, .int .i64 0, .int .i64 0, .int .i64 0, .int .i64 0, .int .i64 0, .int .i64 0, .int .i64 0] 40))
  have HX1 := Lib.hid (Bk.new w1 40 #[.int .i64 0, .int .i64 0, .int .i64 0, .int .i64 0, .int .i64 0, .int .i64 0, .int .i64 0, .int .i64 0, .int .i64 0, .int .i64 0, .int .i64 0, .int .i64 0, .int .i64 0, .int .i64 0, .int .i64 0, .int .i64 0, .int .i64 0, .int .i64 0])
  have hw1 : w.heap.size + 1 ≤ w1.heap.size := by have := hf1.size; simp at this; omega
  clear hf1 hs1
  go_wp2_with (first
    | (with_reducible refine wpList_storeQ (x := .tmp 7) (y := .tmp 45) (q := z) ?_ ?_ HX1.out ?_ ?_); rfl; rfl; rfl; intro w2 hb2 hf2; have HX2 := Lib.hid hb2; have HS2 := Lib.hid (HS1.out.fr hf2 (by omega)); have HR2 := Lib.hid (HR1.out.fr hf2 (by omega)); have HF2 := Lib.hid (HF1.out.then hf2 (fun k hk hlt => by omega)); have hw2 : w1.heap.size + 1 ≤ w2.heap.size := (by have := hf2.size; simp at this; omega); clear hb2 hf2)
  refine (K2.out _ _ HR2.out).mono ?_
  rintro e w3 ⟨rfl, hf3, hr3⟩
  have HR3 := Lib.hid (hr3.alloc (.cells #[.int .i64 0, .int .i64 0, .int .i64 0, .int .i64 0, .int .i64 0, .int .i64 0, .int .i64 0, .int .i64 0, .int .i64 0, .int .i64 0, .int .i64 0, .int .i64 0, .int .i64 0, .int .i64 0, .int .i64 0, .int .i64 0, .int .i64 0, .int .i64 0] 40))
  have HS3 := Lib.hid ((HS2.out.fr hf3 HGX.out).alloc (.cells #[.int .i64 0, .int .i64 0, .int .i64 0, .int .i64 0, .int .i64 0, .int .i64 0, .int .i64 0, .int .i64 0, .int .i64 0, .int .i64 0, .int .i64 0, .int .i64 0, .int .i64 0, .int .i64 0, .int .i64 0, .int .i64 0, .int .i64 0, .int .i64 0] 40))
  have HX3 := Lib.hid ((HX2.out.fr hf3 (by omega)).alloc (.cells #[.int .i64 0, .int .i64 0, .int .i64 0, .int .i64 0, .int .i64 0, .int .i64 0, .int .i64 0, .int .i64 0, .int .i64 0, .int .i64 0, .int .i64 0, .int .i64 0, .int .i64 0, .int .i64 0, .int .i64 0, .int .i64 0, .int .i64 0, .int .i64 0] 40))
  have HF3 := Lib.hid ((HF2.out.trans (hf3.mono fun k hk _ => Or.inr hk)).alloc (.cells #[.int .i64 0, .int .i64 0, .int .i64 0, .int .i64 0, .int .i64 0, .int .i64 0, .int .i64 0, .int .i64 0, .int .i64 0, .int .i64 0, .int .i64 0, .int .i64 0, .int .i64 0, .int .i64 0, .int .i64 0, .int .i64 0, .int .i64 0, .int .i64 0] 40))
  have HY3 := Lib.hid (Bk.new w3 40 #[.int .i64 0, .int .i64 0, .int .i64 0, .int .i64 0, .int .i64 0, .int .i64 0, .int .i64 0, .int .i64 0, .int .i64 0, .int .i64 0, .int .i64 0, .int .i64 0, .int .i64 0, .int .i64 0, .int .i64 0, .int .i64 0, .int .i64 0, .int .i64 0])
  have hw3 : w2.heap.size ≤ w3.heap.size := hf3.size
  clear hf3 hr3
  go_wp2_with (first
    | (with_reducible refine wpList_storeQ (x := .tmp 9) (y := .tmp 50) (q := z) ?_ ?_ HY3.out ?_ ?_); rfl; rfl; rfl; intro w4 hb4 hf4; have HY4 := Lib.hid hb4; have HX4 := Lib.hid (HX3.out.fr hf4 (by omega)); have HS4 := Lib.hid (HS3.out.fr hf4 (by omega)); have HR4 := Lib.hid (HR3.out.fr hf4 (by omega)); have HF4 := Lib.hid (HF3.out.then hf4 (fun k hk hlt => by omega)); clear hb4 hf4
    | (with_reducible refine wpList_loadQ (dst := some 52) ?_ HX4.out ?_); rfl
    | (with_reducible refine wpList_loadQ (dst := some 53) ?_ HY4.out ?_); rfl
    | (with_reducible refine wpList_eqS (q := z) (x := .tmp 52) (y := .tmp 53) ?_ ?_ ?_); rfl; rfl)
  go_ret
  exact ⟨rfl, HF4.out, p', r', t', HS4.out, HR4.out, HI.out, HNX.out⟩
theorem does_4 {g x : Nat} {p : Int} {r : Rq} {t b : Int} (hS : Ss w g p r t b) (hR : Rs w x p r t b) (hI : Inv p r t b) (hgx : g ≠ x) (q : Rq) :
    Calls Try.prog 14 #[.pointer (some ⟨g, 0, none⟩), .pointer (some ⟨x, 0, none⟩), .agg (ac 4 q)] w fun e w' => e = .returned (.bool true) ∧ Post w w' g x p b := by
  obtain ⟨z, c, p', r', t', k1, k2, hI', hn'⟩ := abort_step hI
  have K1 := Lib.hid k1
  have K2 := Lib.hid k2
  have HI := Lib.hid hI'
  have HNX := Lib.hid hn'
  have hg := hS.lt
  have hx := hR.lt
  have HGX := Lib.hid hgx
  have HA := Lib.hid (Bk.new w 57 (ac 4 q))
  have HS := Lib.hid (hS.alloc (.cells (ac 4 q) 57))
  have HR := Lib.hid (hR.alloc (.cells (ac 4 q) 57))
  have G0 := Lib.hid ((Fr.refl (fun k => k = g ∨ k = x) w).alloc (.cells (ac 4 q) 57))
  have c0 : (w.alloc (.cells (ac 4 q) 57)).cell? ⟨w.heap.size, 0, none⟩ = some (.int .i64 4) := HA.out.cell 0
  clear k1 k2 hI hI' hn' hS hR hgx
  go_enter Try.func14, Try.ntmps14
  go_wp2_with fail
  refine (K1.out _ _ HS.out).mono ?_
  rintro e w1 ⟨rfl, hf1, hs1⟩
  have HS1 := Lib.hid (hs1.alloc (.cells #[.int .i64 0, .int .i64 0, .int .i64 0, .int .i64 0, .int .i64 0, .int .i64 0, .int .i64 0, .int .i64 0, .int .i64 0, .int .i64 0, .int .i64 0, .int .i64 0, .int .i64 0, .int .i64 0, .int .i64 0, .int .i64 0, .int .i64 0, .int .i64 0] 40))
  have HR1 := Lib.hid ((HR.out.fr hf1 (fun e => HGX.out e.symm)).alloc (.cells #[.int .i64 0, .int .i64 0, .int .i64 0, .int .i64 0, .int .i64 0, .int .i64 0, .int .i64 0, .int .i64 0, .int .i64 0, .int .i64 0, .int .i64 0, .int .i64 0, .int .i64 0, .int .i64 0, .int .i64 0, .int .i64 0, .int .i64 0, .int .i64 0] 40))
  have HF1 := Lib.hid ((G0.out.trans (hf1.mono fun k hk _ => Or.inl hk)).alloc (.cells #[.int .i64 0, .int .i64 0, .int .i64 0, .int .i64 0, .int .i64 0, .int .i64 0, .int .i64 0, .int .i64 0, .int .i64 0, .int .i64 0, .int .i64 0, .int .i64 0, .int .i64 0, .int .i64 0, .int .i64 0, .int .i64 0, .int .i64 0, .int .i64 0] 40))
  have HX1 := Lib.hid (Bk.new w1 40 #[.int .i64 0, .int .i64 0, .int .i64 0, .int .i64 0, .int .i64 0, .int .i64 0, .int .i64 0, .int .i64 0, .int .i64 0, .int .i64 0, .int .i64 0, .int .i64 0, .int .i64 0, .int .i64 0, .int .i64 0, .int .i64 0, .int .i64 0, .int .i64 0])
  have hw1 : w.heap.size + 1 ≤ w1.heap.size := by have := hf1.size; simp at this; omega
  clear hf1 hs1
  go_wp2_with (first
    | (with_reducible refine wpList_storeQ (x := .tmp 11) (y := .tmp 65) (q := z) ?_ ?_ HX1.out ?_ ?_); rfl; rfl; rfl; intro w2 hb2 hf2; have HX2 := Lib.hid hb2; have HS2 := Lib.hid (HS1.out.fr hf2 (by omega)); have HR2 := Lib.hid (HR1.out.fr hf2 (by omega)); have HF2 := Lib.hid (HF1.out.then hf2 (fun k hk hlt => by omega)); have hw2 : w1.heap.size + 1 ≤ w2.heap.size := (by have := hf2.size; simp at this; omega); clear hb2 hf2)
  refine (K2.out _ _ HR2.out).mono ?_
  rintro e w3 ⟨rfl, hf3, hr3⟩
  have HR3 := Lib.hid (hr3.alloc (.cells #[.int .i64 0, .int .i64 0, .int .i64 0, .int .i64 0, .int .i64 0, .int .i64 0, .int .i64 0, .int .i64 0, .int .i64 0, .int .i64 0, .int .i64 0, .int .i64 0, .int .i64 0, .int .i64 0, .int .i64 0, .int .i64 0, .int .i64 0, .int .i64 0] 40))
  have HS3 := Lib.hid ((HS2.out.fr hf3 HGX.out).alloc (.cells #[.int .i64 0, .int .i64 0, .int .i64 0, .int .i64 0, .int .i64 0, .int .i64 0, .int .i64 0, .int .i64 0, .int .i64 0, .int .i64 0, .int .i64 0, .int .i64 0, .int .i64 0, .int .i64 0, .int .i64 0, .int .i64 0, .int .i64 0, .int .i64 0] 40))
  have HX3 := Lib.hid ((HX2.out.fr hf3 (by omega)).alloc (.cells #[.int .i64 0, .int .i64 0, .int .i64 0, .int .i64 0, .int .i64 0, .int .i64 0, .int .i64 0, .int .i64 0, .int .i64 0, .int .i64 0, .int .i64 0, .int .i64 0, .int .i64 0, .int .i64 0, .int .i64 0, .int .i64 0, .int .i64 0, .int .i64 0] 40))
  have HF3 := Lib.hid ((HF2.out.trans (hf3.mono fun k hk _ => Or.inr hk)).alloc (.cells #[.int .i64 0, .int .i64 0, .int .i64 0, .int .i64 0, .int .i64 0, .int .i64 0, .int .i64 0, .int .i64 0, .int .i64 0, .int .i64 0, .int .i64 0, .int .i64 0, .int .i64 0, .int .i64 0, .int .i64 0, .int .i64 0, .int .i64 0, .int .i64 0] 40))
  have HY3 := Lib.hid (Bk.new w3 40 #[.int .i64 0, .int .i64 0, .int .i64 0, .int .i64 0, .int .i64 0, .int .i64 0, .int .i64 0, .int .i64 0, .int .i64 0, .int .i64 0, .int .i64 0, .int .i64 0, .int .i64 0, .int .i64 0, .int .i64 0, .int .i64 0, .int .i64 0, .int .i64 0])
  have hw3 : w2.heap.size ≤ w3.heap.size := hf3.size
  clear hf3 hr3
  go_wp2_with (first
    | (with_reducible refine wpList_storeQ (x := .tmp 13) (y := .tmp 70) (q := z) ?_ ?_ HY3.out ?_ ?_); rfl; rfl; rfl; intro w4 hb4 hf4; have HY4 := Lib.hid hb4; have HX4 := Lib.hid (HX3.out.fr hf4 (by omega)); have HS4 := Lib.hid (HS3.out.fr hf4 (by omega)); have HR4 := Lib.hid (HR3.out.fr hf4 (by omega)); have HF4 := Lib.hid (HF3.out.then hf4 (fun k hk hlt => by omega)); clear hb4 hf4
    | (with_reducible refine wpList_loadQ (dst := some 72) ?_ HX4.out ?_); rfl
    | (with_reducible refine wpList_loadQ (dst := some 73) ?_ HY4.out ?_); rfl
    | (with_reducible refine wpList_eqS (q := z) (x := .tmp 72) (y := .tmp 73) ?_ ?_ ?_); rfl; rfl)
  go_ret
  exact ⟨rfl, HF4.out, p', r', t', HS4.out, HR4.out, HI.out, HNX.out⟩
theorem does_0 {g x : Nat} {p : Int} {r : Rq} {t b : Int} (hS : Ss w g p r t b) (hR : Rs w x p r t b) (hI : Inv p r t b) (hgx : g ≠ x) (k : Int) (q : Rq) (e1 : k ≠ 1) (e2 : k ≠ 2) (e3 : k ≠ 3) (e4 : k ≠ 4) :
    Calls Try.prog 14 #[.pointer (some ⟨g, 0, none⟩), .pointer (some ⟨x, 0, none⟩), .agg (ac k q)] w fun e w' => e = .returned (.bool true) ∧ Post w w' g x p b := by
  obtain ⟨c, p', r', t', k1, k2, hI', hn'⟩ := start_step q hI
  have K1 := Lib.hid k1
  have K2 := Lib.hid k2
  have HI := Lib.hid hI'
  have HNX := Lib.hid hn'
  have hg := hS.lt
  have hx := hR.lt
  have HGX := Lib.hid hgx
  have HA := Lib.hid (Bk.new w 57 (ac k q))
  have HS := Lib.hid (hS.alloc (.cells (ac k q) 57))
  have HR := Lib.hid (hR.alloc (.cells (ac k q) 57))
  have G0 := Lib.hid ((Fr.refl (fun k => k = g ∨ k = x) w).alloc (.cells (ac k q) 57))
  have c0 : (w.alloc (.cells (ac k q) 57)).cell? ⟨w.heap.size, 0, none⟩ = some (.int .i64 k) := HA.out.cell 0
  have n1 : (k == 1) = false := by simpa using e1
  have n2 : (k == 2) = false := by simpa using e2
  have n3 : (k == 3) = false := by simpa using e3
  have n4 : (k == 4) = false := by simpa using e4
  clear k1 k2 hI hI' hn' hS hR hgx e1 e2 e3 e4
  go_enter Try.func14, Try.ntmps14
  go_upto_region 2 with fail
  · have KS := Lib.hid (fun W (h : Fr (fun k => k = g ∨ k = x) (w.alloc (.cells (ac k q) 57)) W) => (show Bk W w.heap.size 57 (ac k q) from HA.out.fr h (by omega)))
    refine wp_region_held (S := fun w' => Bk w' w.heap.size 57 (ac k q)) (by kernel_rfl) ?_
    have HD0 : Fr Nil (w.alloc (.cells (ac k q) 57)) (w.alloc (.cells (ac k q) 57)).drew := (Fr.refl Nil (w.alloc (.cells (ac k q) 57))).drew
    have fz0 : Fr (fun k => k = g ∨ k = x) (w.alloc (.cells (ac k q) 57)) (w.alloc (.cells (ac k q) 57)).drew := HD0.of_nil
    change wpAnyH _ _ _ _ _ _ _ _ (World.drew _)
    refine wpAnyH_take (i := 0) (v := .pointer (some ⟨g, 0, none⟩)) rfl (by kernel_rfl) (by kernel_rfl) (by kernel_rfl) (fun _ _ _ h => h) (Or.inl ⟨by rfl, fun w' hw' => by first | (go_simp; done) | (go_simp; rfl)⟩) (KS.out _ fz0) ?_
    (try simp only [Act.put, List.getElem_toArray, List.getElem_cons_zero, List.getElem_cons_succ, List.setIfInBounds_toArray, List.set_cons_zero, List.set_cons_succ])
    refine wpAnyH_take (i := 1) (v := .pointer (some ⟨w.heap.size, 1, none⟩)) rfl (by kernel_rfl) (by kernel_rfl) (by kernel_rfl) (fun _ _ _ h => h) (Or.inl ⟨by rfl, fun w' hw' => by first | (go_simp; done) | (go_simp; rfl)⟩) (KS.out _ fz0) ?_
    (try simp only [Act.put, List.getElem_toArray, List.getElem_cons_zero, List.getElem_cons_succ, List.setIfInBounds_toArray, List.set_cons_zero, List.set_cons_succ])
    refine wpAnyH_take (i := 2) (v := .agg (qc q)) rfl (by kernel_rfl) (by kernel_rfl) (by kernel_rfl) (fun _ _ _ h => h) (yields_loadA (by rfl) rfl (fun _ h => h)) (KS.out _ fz0) ?_
    (try simp only [Act.put, List.getElem_toArray, List.getElem_cons_zero, List.getElem_cons_succ, List.setIfInBounds_toArray, List.set_cons_zero, List.set_cons_succ])
    refine wpAnyH_take (i := 4) (v := .pointer (some ⟨x, 0, none⟩)) rfl (by kernel_rfl) (by kernel_rfl) (by kernel_rfl) (fun _ _ _ h => h) (Or.inl ⟨by rfl, fun w' hw' => by first | (go_simp; done) | (go_simp; rfl)⟩) (KS.out _ fz0) ?_
    (try simp only [Act.put, List.getElem_toArray, List.getElem_cons_zero, List.getElem_cons_succ, List.setIfInBounds_toArray, List.set_cons_zero, List.set_cons_succ])
    refine wpAnyH_take (i := 5) (v := .pointer (some ⟨w.heap.size, 1, none⟩)) rfl (by kernel_rfl) (by kernel_rfl) (by kernel_rfl) (fun _ _ _ h => h) (Or.inl ⟨by rfl, fun w' hw' => by first | (go_simp; done) | (go_simp; rfl)⟩) (KS.out _ fz0) ?_
    (try simp only [Act.put, List.getElem_toArray, List.getElem_cons_zero, List.getElem_cons_succ, List.setIfInBounds_toArray, List.set_cons_zero, List.set_cons_succ])
    refine wpAnyH_take (i := 6) (v := .agg (qc q)) rfl (by kernel_rfl) (by kernel_rfl) (by kernel_rfl) (fun _ _ _ h => h) (yields_loadA (by rfl) rfl (fun _ h => h)) (KS.out _ fz0) ?_
    (try simp only [Act.put, List.getElem_toArray, List.getElem_cons_zero, List.getElem_cons_succ, List.setIfInBounds_toArray, List.set_cons_zero, List.set_cons_succ])
    refine wpAnyH_all (rs := [3]) (by kernel_rfl) (by simp) (fun i hi => ?_)
    obtain rfl : i = 3 := by simpa using hi
    refine wpOp_step rfl (fun K hK => ?_)
    go_simp
    refine (K1.out _ _ (HS.out.fr HD0 id)).mono ?_
    rintro e wz1 ⟨rfl, hfz1, hsA⟩
    have fz1 : Fr (fun k => k = g ∨ k = x) (w.alloc (.cells (ac k q) 57)) wz1 := fz0.trans (hfz1.mono fun k hk _ => Or.inl hk)
    have HRA := Lib.hid ((HR.out.fr HD0 id).fr hfz1 (fun e => HGX.out e.symm))
    refine hK _ _ ⟨(KS.out _ fz1), ?_⟩
    clear hK K hi
    (try simp only [Act.put, List.getElem_toArray, List.getElem_cons_zero, List.getElem_cons_succ, List.setIfInBounds_toArray, List.set_cons_zero, List.set_cons_succ])
    refine wpAnyH_all (rs := [7]) (by kernel_rfl) (by simp) (fun i hi => ?_)
    obtain rfl : i = 7 := by simpa using hi
    refine wpOp_step rfl (fun K hK => ?_)
    go_simp
    refine (K2.out _ _ HRA.out).mono ?_
    rintro e wz2 ⟨rfl, hfz2, hrB⟩
    have fz2 : Fr (fun k => k = g ∨ k = x) (w.alloc (.cells (ac k q) 57)) wz2 := fz1.trans (hfz2.mono fun k hk _ => Or.inr hk)
    have HSB := Lib.hid (hsA.fr hfz2 HGX.out)
    refine hK _ _ ⟨(KS.out _ fz2), ?_⟩
    clear hK K hi
    (try simp only [Act.put, List.getElem_toArray, List.getElem_cons_zero, List.getElem_cons_succ, List.setIfInBounds_toArray, List.set_cons_zero, List.set_cons_succ])
    refine wpAnyH_take (i := 8) (v := .bool true) rfl (by kernel_rfl) (by kernel_rfl) (by kernel_rfl) (fun _ _ _ h => h) (Or.inl ⟨by rfl, fun w' hw' => by first | (go_simp; done) | (go_simp; rfl)⟩) (KS.out _ fz2) ?_
    (try simp only [Act.put, List.getElem_toArray, List.getElem_cons_zero, List.getElem_cons_succ, List.setIfInBounds_toArray, List.set_cons_zero, List.set_cons_succ])
    refine wpAnyH_take (i := 9) (v := .bool true) rfl (by kernel_rfl) (by kernel_rfl) (by kernel_rfl) (fun _ _ _ h => h) (Or.inl ⟨by rfl, fun w' hw' => by first | (go_simp; done) | (go_simp; rfl)⟩) (KS.out _ fz2) ?_
    (try simp only [Act.put, List.getElem_toArray, List.getElem_cons_zero, List.getElem_cons_succ, List.setIfInBounds_toArray, List.set_cons_zero, List.set_cons_succ])
    refine wpAnyH_done (by kernel_rfl) ?_ _
    have HFE := Lib.hid (G0.out.trans fz2)
    have HRB := Lib.hid hrB
    clear KS
    go_wp2_with fail
    go_ret
    exact ⟨rfl, HFE.out, p', r', t', HSB.out, HRB.out, HI.out, HNX.out⟩
theorem does_act {g x : Nat} {p : Int} {r : Rq} {t b : Int} (hS : Ss w g p r t b) (hR : Rs w x p r t b) (hI : Inv p r t b) (hgx : g ≠ x) (k : Int) (q : Rq) :
    Calls Try.prog 14 #[.pointer (some ⟨g, 0, none⟩), .pointer (some ⟨x, 0, none⟩), .agg (ac k q)] w fun e w' => e = .returned (.bool true) ∧ Post w w' g x p b := by
  by_cases e1 : k = 1
  · subst e1; exact does_1 w hS hR hI hgx q
  by_cases e2 : k = 2
  · subst e2; exact does_2 w hS hR hI hgx q
  by_cases e3 : k = 3
  · subst e3; exact does_3 w hS hR hI hgx q
  by_cases e4 : k = 4
  · subst e4; exact does_4 w hS hR hI hgx q
  exact does_0 w hS hR hI hgx k q e1 e2 e3 e4
end
end Go.Proofs.Yteceghhjpejdnaa.SessO
