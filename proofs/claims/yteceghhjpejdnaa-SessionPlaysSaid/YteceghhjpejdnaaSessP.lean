/- Chapter 32: the walk of the law SessionPlays. -/
import Derived.Test.YteceghhjpejdnaaSessO
import Derived.Test.YteceghhjpejdnaaSessI
import Derived.Test.YteceghhjpejdnaaQuiet
import Derived.BigQuiet
namespace Go.Proofs.Yteceghhjpejdnaa.SessP
open Go.RowKit Base Big Slices Quiet TrapA TrapB TrapG CodecA CodecB CodecC CodecI CodecK SessA SessB SessC SessD SessE SessF SessG SessH SessI SessJ SessL SessN SessO
set_option linter.unusedVariables false
set_option linter.unusedSimpArgs false

def EA : El (Int × Rq) := { ty := 57, sl := 51, size := 19, bytes := 152, cells := fun a => (ac a.1 a.2).toList }
theorem Try.info_act : (Try.prog.info? 57).map (fun i => (i.zero, i.size, i.bytes)) = some (some (.agg #[.int .i64 0, .int .i64 0, .int .i64 0, .int .i64 0, .int .i64 0, .int .i64 0, .int .i64 0, .int .i64 0, .int .i64 0, .int .i64 0, .int .i64 0, .int .i64 0, .int .i64 0, .int .i64 0, .int .i64 0, .int .i64 0, .int .i64 0, .int .i64 0, .int .i64 0]), 19, 152) := by kernel_rfl
theorem EA_ok : EA.Ok Try.prog := by
  obtain ⟨i0, hi, hz0, hz1, hz2⟩ := info_parts Try.info_act
  refine ⟨Try.underlying51, ⟨i0, _, hi, hz0, hz1, hz2, rfl⟩, by decide, by decide, fun _ => rfl, fun a u hu => ?_⟩
  simp [EA, ac] at hu
  rcases hu with rfl | rfl | rfl | rfl | rfl | rfl | rfl | rfl | rfl | rfl | rfl | rfl | rfl | rfl | rfl | rfl | rfl | rfl | rfl <;> rfl
theorem Try.act_str : Str Try.prog 57 19 := ⟨⟨_, Try.underlying57⟩, by kernel_rfl⟩
theorem act_cells : Try.prog.cellsOf 57 = 19 := by kernel_rfl
def decA (vs : List Value) : Int × Rq := match vs with | [.int _ a0, .int _ a1, .int _ a2, .int _ a3, .int _ a4, .int _ a5, .int _ a6, .int _ a7, .int _ a8, .int _ a9, .int _ a10, .int _ a11, .int _ a12, .int _ a13, .int _ a14, .int _ a15, .int _ a16, .int _ a17, .int _ a18] => (a0, ⟨a1, a2, a3, a4, a5, a6, a7, a8, a9, a10, a11, a12, a13, a14, a15, a16, a17, a18⟩) | _ => (0, zQ)
set_option maxRecDepth 100000 in
theorem open_acts {H : Type} {enc : TypeId × Value → H} {w : World} {base : Nat} {v : Value} {d : DataW H} {p : List MemPlace} (hv : Value.okWide Try.prog w .any base 51 v) (h : DataW.Trod enc Try.prog w 0 (fun _ => true) true 51 v d p) :
    ∃ l : List (Int × Rq), Come EA w v l ∧ l.length ≤ maxLen := by
  obtain ⟨l, h1, h2, h3⟩ := open_come (ks := [.i .i64, .i .i64, .i .i64, .i .i64, .i .i64, .i .i64, .i .i64, .i .i64, .i .i64, .i .i64, .i .i64, .i .i64, .i .i64, .i .i64, .i .i64, .i .i64, .i .i64, .i .i64, .i .i64]) EA_ok 9 (by kernel_rfl) act_cells decA (fun vs hvs => by
    obtain ⟨_, v0, rfl, ⟨a0, rfl, _, _⟩, h0⟩ := Leaf.Leafs.cons hvs
    obtain ⟨_, v1, rfl, ⟨a1, rfl, _, _⟩, h1⟩ := Leaf.Leafs.cons h0
    obtain ⟨_, v2, rfl, ⟨a2, rfl, _, _⟩, h2⟩ := Leaf.Leafs.cons h1
    obtain ⟨_, v3, rfl, ⟨a3, rfl, _, _⟩, h3⟩ := Leaf.Leafs.cons h2
    obtain ⟨_, v4, rfl, ⟨a4, rfl, _, _⟩, h4⟩ := Leaf.Leafs.cons h3
    obtain ⟨_, v5, rfl, ⟨a5, rfl, _, _⟩, h5⟩ := Leaf.Leafs.cons h4
    obtain ⟨_, v6, rfl, ⟨a6, rfl, _, _⟩, h6⟩ := Leaf.Leafs.cons h5
    obtain ⟨_, v7, rfl, ⟨a7, rfl, _, _⟩, h7⟩ := Leaf.Leafs.cons h6
    obtain ⟨_, v8, rfl, ⟨a8, rfl, _, _⟩, h8⟩ := Leaf.Leafs.cons h7
    obtain ⟨_, v9, rfl, ⟨a9, rfl, _, _⟩, h9⟩ := Leaf.Leafs.cons h8
    obtain ⟨_, v10, rfl, ⟨a10, rfl, _, _⟩, h10⟩ := Leaf.Leafs.cons h9
    obtain ⟨_, v11, rfl, ⟨a11, rfl, _, _⟩, h11⟩ := Leaf.Leafs.cons h10
    obtain ⟨_, v12, rfl, ⟨a12, rfl, _, _⟩, h12⟩ := Leaf.Leafs.cons h11
    obtain ⟨_, v13, rfl, ⟨a13, rfl, _, _⟩, h13⟩ := Leaf.Leafs.cons h12
    obtain ⟨_, v14, rfl, ⟨a14, rfl, _, _⟩, h14⟩ := Leaf.Leafs.cons h13
    obtain ⟨_, v15, rfl, ⟨a15, rfl, _, _⟩, h15⟩ := Leaf.Leafs.cons h14
    obtain ⟨_, v16, rfl, ⟨a16, rfl, _, _⟩, h16⟩ := Leaf.Leafs.cons h15
    obtain ⟨_, v17, rfl, ⟨a17, rfl, _, _⟩, h17⟩ := Leaf.Leafs.cons h16
    obtain ⟨_, v18, rfl, ⟨a18, rfl, _, _⟩, h18⟩ := Leaf.Leafs.cons h17
    obtain rfl : v18 = [] := h18
    rfl) hv h
  exact ⟨l, h1, h2⟩
theorem add_mk (g o n : Nat) : (⟨g, o, none⟩ : Addr).add n = ⟨g, o + n, none⟩ := by unfold Addr.add; split <;> simp_all
theorem spot_none {w : World} {a : Addr} {u : Value} (h : w.cell? (a.add 0) = some u) : ∃ g o, a = ⟨g, o, none⟩ := by
  have h' : w.cell? a = some u := h
  rcases a with ⟨g, o, _ | t⟩
  · exact ⟨g, o, rfl⟩
  · unfold World.cell? at h'
    split at h' <;> simp at h'
/-- where the acts lie -/
theorem come_spot {w : World} {A : Option Addr} {c : Nat} {l : List (Int × Rq)} (h : Come EA w (.slice A l.length c) l) (h0 : 0 < l.length) : ∃ g o, A = some ⟨g, o, none⟩ ∧ l.length ≤ c := by
  rcases h with ⟨_, rfl⟩ | ⟨a, cap, he, hc, hr⟩
  · simp at h0
  · simp only [Value.slice.injEq, true_and] at he
    obtain ⟨rfl, rfl⟩ := he
    obtain ⟨q, hq⟩ : ∃ q, l[0]? = some q := ⟨l[0]'h0, List.getElem?_eq_getElem _⟩
    have h0 := hr _ _ (flat_at EA_ok l 0 q hq 0 (.int .i64 q.1) rfl)
    obtain ⟨g, o, rfl⟩ := spot_none (by simpa using h0)
    exact ⟨g, o, rfl, hc⟩
theorem act_row {w : World} {g o c : Nat} {l : List (Int × Rq)} (h : Come EA w (.slice (some ⟨g, o, none⟩) l.length c) l) {k : Nat} {p : Int × Rq} (hp : l[k]? = some p) : w.rangeAt g (o + k * 19) (ac p.1 p.2).toList := fun j v hv => by
  rcases h with ⟨h, _⟩ | ⟨a, cap, he, hc, hr⟩
  · cases h
  · simp only [Value.slice.injEq, true_and, Option.some.injEq] at he
    obtain ⟨rfl, rfl⟩ := he
    have := hr _ _ (flat_at EA_ok l k p hp j v hv)
    rw [add_mk] at this
    rw [Nat.add_assoc]
    exact this

theorem wpAnyH_strong {P : Program} {md : Region.Mode} {ops : Array Oper} {Q : Exit → Act → World → Prop} {S S' : World → Prop} (h : ∀ w, S' w → S w) : ∀ (fuel : Nat) (listed : Array Bool) (a : Act) (w : World), wpAnyH P md ops Q S' fuel listed a w → wpAnyH P md ops Q S fuel listed a w
  | 0, _, _, _, H => H
  | fuel + 1, _, _, _, H => ⟨H.1, fun i hi => wpOp_mono (fun a' w' h' => ⟨h _ h'.1, wpAnyH_strong h fuel _ a' w' h'.2⟩) (H.2 i hi)⟩
theorem yields_act {g o : Nat} {k : Int} {r : Rq} {ops : Array Oper} {S : World → Prop} {a : Act} {dst : Option Tmp} {y : Operand} {ty : TypeId} {pos : String} {aft : Array Edge} {gd : Option (Nat × Bool)}
    (hw : Region.wanted ⟨dst, .load 57 y, ty, pos, aft, gd⟩ (yielded ops a.tmps) = true) (hx : a.eval y = .pointer (some ⟨g, o, none⟩)) (hS : ∀ w, S w → w.rangeAt g o (ac k r).toList) : YieldsIf Try.prog ops S ⟨dst, .load 57 y, ty, pos, aft, gd⟩ (.agg (ac k r)) a := by
  obtain ⟨⟨fs, hu⟩, hi⟩ := Try.act_str
  exact yieldsIf_load_mid hw 57 y rfl g o hx (ac k r).toList _ hS hu rfl hi

section
variable {ops : Array Oper} {C : World → Prop} {Q : Act → Prop} {a : Act} {rest : List Oper} {dst : Option Tmp} {ty t2 : TypeId} {pos : String} {aft : Array Edge} {gd : Option (Nat × Bool)}
theorem wpQuiet_loadQ {y : Operand} {m : Nat} {r : Rq} (hw : Region.wanted ⟨dst, .load 40 y, ty, pos, aft, gd⟩ (yielded ops a.tmps) = true) (hx : a.eval y = .pointer (some ⟨m, 0, none⟩)) (hC : ∀ w, C w → Bk w m 40 (qc r))
    (h : wpQuiet Try.prog ops C Q rest (a.put dst (.agg (qc r)))) : wpQuiet Try.prog ops C Q (⟨dst, .load 40 y, ty, pos, aft, gd⟩ :: rest) a :=
  BigFrame.wpQuiet_want hw fun K hK => ⟨_, fun w hw' => by
    obtain ⟨⟨fs, hu⟩, hi⟩ := Try.req_str
    unfold Oper.quietAt execOp
    simp only [hx, Instr.loadAt, Instr.sureAddr, Sem.run_bind, Sem.run_pure, Result.andThen_ok, run_loadVar_row w m 40 40 (qc r) (0, 0) _ (hC w hw') hu rfl hi]
    exact ⟨rfl, rfl⟩, hK _ h⟩
theorem wpQuiet_loadR {y : Operand} {x : Nat} {p : Int} {r : Rq} {t b : Int} (hw : Region.wanted ⟨dst, .load 40 y, ty, pos, aft, gd⟩ (yielded ops a.tmps) = true) (hx : a.eval y = .pointer (some ⟨x, 3, none⟩)) (hC : ∀ w, C w → Rs w x p r t b)
    (h : wpQuiet Try.prog ops C Q rest (a.put dst (.agg (qc r)))) : wpQuiet Try.prog ops C Q (⟨dst, .load 40 y, ty, pos, aft, gd⟩ :: rest) a :=
  BigFrame.wpQuiet_want hw fun K hK => ⟨_, fun w hw' => by
    obtain ⟨⟨fs, hu⟩, hi⟩ := Try.req_str
    unfold Oper.quietAt execOp
    simp only [hx, Instr.loadAt, Instr.sureAddr, Sem.run_bind, Sem.run_pure, Result.andThen_ok, run_loadVar_mid w x 3 40 (qc r).toList _ (midR (hC w hw')) hu rfl hi]
    exact ⟨rfl, rfl⟩, hK _ h⟩
theorem wpQuiet_neS {x y : Operand} {q : Rq} (hw : Region.wanted ⟨dst, .binOp .neq 40 x y t2, ty, pos, aft, gd⟩ (yielded ops a.tmps) = true) (hx : a.eval x = .agg (qc q)) (hy : a.eval y = .agg (qc q))
    (h : wpQuiet Try.prog ops C Q rest (a.put dst (.bool false))) : wpQuiet Try.prog ops C Q (⟨dst, .binOp .neq 40 x y t2, ty, pos, aft, gd⟩ :: rest) a :=
  BigFrame.wpQuiet_want hw fun K hK => ⟨_, fun w hw' => by
    unfold Oper.quietAt execOp
    simp only [hx, hy, Sem.run_bind, run_eqGuard_agg w _ _ _ _ _ _ Try.guard_req, Result.andThen_ok, run_neq_struct, eq_run, Sem.run_pure, decide_true]
    exact ⟨rfl, rfl⟩, hK _ h⟩
end

section
variable (w : World)
/-- what Request tells -/
theorem request_step {p : Int} {r : Rq} {t b : Int} (hI : Inv p r t b) : ∃ (z : Rq) (is : Bool), (∀ w g, Ss w g p r t b → Calls Try.prog 16 #[.pointer (some ⟨g, 0, none⟩)] w fun e w' => e = .returned (.tuple #[.agg (qc z), .bool is]) ∧ Fr Nil w w') ∧
    ((is = true ∧ 1 ≤ p ∧ p ≤ 3 ∧ r = z) ∨ (is = false ∧ p = 0 ∧ z = zQ) ∨ (is = false ∧ p = 4 ∧ z = zQ)) := by
  obtain ⟨h1, h2, h3, h4, h5, h6, h7⟩ := hI
  by_cases e0 : p = 0
  · subst e0
    exact ⟨zQ, false, fun w g h => request_0 w h, Or.inr (Or.inl ⟨rfl, rfl, rfl⟩)⟩
  by_cases e4 : p = 4
  · subst e4
    exact ⟨zQ, false, fun w g h => request_4 w h, Or.inr (Or.inr ⟨rfl, rfl, rfl⟩)⟩
  exact ⟨r, true, fun w g h => request_yes w h e0 e4, Or.inl ⟨rfl, by omega, by omega, rfl⟩⟩

theorem plays_out (b : Int) (v : Value) (hb : b < 0 ∨ 1000 < b) : Calls Try.prog 5 #[.int .i64 b, v] w fun e w' => e = .returned (.bool true) ∧ Fr Nil w w' := by
  have K1 := Lib.hid (New_bad w b hb)
  have KL := Lib.hid (fun W => lives_true W)
  rcases Int.lt_or_le b 0 with n0 | n0
  · skip
    go_enter Try.func5, Try.ntmps5
    go_wp2_with fail
    refine K1.out.mono ?_
    rintro e w1 ⟨rfl, hf1⟩
    have HF1 := Lib.hid hf1
    clear hf1
    go_wp2_with fail
    refine (KL.out _).mono ?_
    rintro e w2 ⟨rfl, hf2⟩
    have HF2 := Lib.hid (HF1.out.trans hf2)
    clear hf2
    go_wp2_with fail
    go_ret
    exact ⟨rfl, HF2.out⟩
  · have n1 : ¬ b < 0 := by omega
    have n2 : 1000 < b := by omega
    go_enter Try.func5, Try.ntmps5
    go_wp2_with fail
    refine K1.out.mono ?_
    rintro e w1 ⟨rfl, hf1⟩
    have HF1 := Lib.hid hf1
    clear hf1
    go_wp2_with fail
    refine (KL.out _).mono ?_
    rintro e w2 ⟨rfl, hf2⟩
    have HF2 := Lib.hid (HF1.out.trans hf2)
    clear hf2
    go_wp2_with fail
    go_ret
    exact ⟨rfl, HF2.out⟩

set_option maxRecDepth 100000 in
set_option maxHeartbeats 8000000 in
theorem plays_in (b : Int) (h0 : 0 ≤ b) (h1 : b ≤ 1000) {A : Option Addr} {n c : Nat} {l : List (Int × Rq)} (hl : l.length = n) (hm : n ≤ maxLen) (hc : Come EA w (.slice A n c) l) : Calls Try.prog 5 #[.int .i64 b, .slice A n c] w fun e w' => e = .returned (.bool true) ∧ Fr Nil w w' := by
  have K1 := Lib.hid (New_ok w b h0 h1)
  have KL := Lib.hid (fun W => lives_true W)
  have HC := Lib.hid (show Come EA w (.slice A l.length c) l by rw [hl]; exact hc)
  have HL := Lib.hid hl
  have HM := Lib.hid hm
  have HI0 := Lib.hid (Inv.new h0 h1)
  have n0 : ¬ b < 0 := by omega
  have n1 : ¬ 1000 < b := by omega
  have KP := Lib.hid (fun W g p r t (hs : Ss W g p r t b) => Phase_any W hs)
  have KT := Lib.hid (fun W g p r t (hs : Ss W g p r t b) => Tries_any W hs)
  have KB := Lib.hid (fun W g p r t (hs : Ss W g p r t b) => Budget_any W hs)
  have KN : Hid (∀ W p q, q ∈ nxt p → Calls Try.prog 13 #[.int .i64 p, .int .i64 q] W fun e w' => e = .returned (.bool true) ∧ Fr Nil W w') := Lib.hid (fun W p q hq => by have := Next_any W p q; rwa [decide_eq_true hq] at this)
  have KD := Lib.hid (fun W g x p r t k q (hs : Ss W g p r t b) (hr : Rs W x p r t b) (hi : Inv p r t b) (hgx : g ≠ x) => does_act W hs hr hi hgx k q)
  have hn0 : (0 : Int) ≤ n := Int.natCast_nonneg n
  clear hl hc hm h0 h1
  go_enter Try.func5, Try.ntmps5
  go_wp2_with fail
  refine K1.out.mono ?_
  rintro e w1 ⟨rfl, hf1, hs1⟩
  have HF1 := Lib.hid (hf1.alloc (.cells #[.int .i64 0, .int .i64 0, .int .i64 b, .int .i64 0, .int .i64 0, .int .i64 0, .int .i64 0, .int .i64 0, .int .i64 0, .int .i64 0, .int .i64 0, .int .i64 0, .int .i64 0, .int .i64 0, .int .i64 0, .int .i64 0, .int .i64 0, .int .i64 0, .int .i64 0, .int .i64 0, .int .i64 0] 54))
  have HS1 := Lib.hid (hs1.alloc (.cells #[.int .i64 0, .int .i64 0, .int .i64 b, .int .i64 0, .int .i64 0, .int .i64 0, .int .i64 0, .int .i64 0, .int .i64 0, .int .i64 0, .int .i64 0, .int .i64 0, .int .i64 0, .int .i64 0, .int .i64 0, .int .i64 0, .int .i64 0, .int .i64 0, .int .i64 0, .int .i64 0, .int .i64 0] 54))
  have HR1 := Lib.hid (show Rs (w1.alloc (.cells #[.int .i64 0, .int .i64 0, .int .i64 b, .int .i64 0, .int .i64 0, .int .i64 0, .int .i64 0, .int .i64 0, .int .i64 0, .int .i64 0, .int .i64 0, .int .i64 0, .int .i64 0, .int .i64 0, .int .i64 0, .int .i64 0, .int .i64 0, .int .i64 0, .int .i64 0, .int .i64 0, .int .i64 0] 54)) w1.heap.size 0 zQ 0 b from Bk.new w1 54 #[.int .i64 0, .int .i64 0, .int .i64 b, .int .i64 0, .int .i64 0, .int .i64 0, .int .i64 0, .int .i64 0, .int .i64 0, .int .i64 0, .int .i64 0, .int .i64 0, .int .i64 0, .int .i64 0, .int .i64 0, .int .i64 0, .int .i64 0, .int .i64 0, .int .i64 0, .int .i64 0, .int .i64 0])
  have HG := Lib.hid (Nat.le_refl w.heap.size)
  have HX := Lib.hid hf1.size
  have HGX := Lib.hid (show w.heap.size ≠ w1.heap.size from fun e => by have := hs1.lt; omega)
  clear hf1 hs1 K1
  go_upto_region 7 with fail
  generalize hx : w1.heap.size = x at *
  generalize hg : w.heap.size = g at *
  have HGE := Lib.hid hg
  clear hx hg
  go_wp2_with fail
  go_loopw [8] (fun i wr => ∃ (k : Nat) (p : Int) (r : Rq) (t : Int), i = .int .i64 k ∧ k ≤ n ∧ k ≤ 60 ∧ Ss wr g p r t b ∧ Rs wr x p r t b ∧ Inv p r t b ∧ Fr Nil w wr) (fun i _ => n - (intOf i).toNat)
  case atStart => exact ⟨0, 0, zQ, 0, rfl, by omega, by omega, HS1.out, HR1.out, HI0.out, HF1.out⟩
  case round =>
    obtain ⟨k, p, r, t, rfl, hk, hk60, hs, hr, hi, hf⟩ := hrel
    have HS := Lib.hid hs
    have HR := Lib.hid hr
    have HI := Lib.hid hi
    have HF := Lib.hid hf
    clear hs hr hi hf HF1 HS1 HR1 HI0
    by_cases hlt : k < n
    · have hlt' : (k : Int) < n := by omega
      by_cases h60 : k < 60
      · have h60' : (k : Int) < 60 := by omega
        have hkl : k < l.length := by have := HL.out; omega
        obtain ⟨gA, o, rfl, hnc'⟩ := come_spot HC.out (by omega)
        have hnc : n ≤ c := by have := HL.out; omega
        obtain ⟨q, hq⟩ : ∃ q, l[k]? = some q := ⟨l[k], List.getElem?_eq_getElem hkl⟩
        have KS := Lib.hid (fun W (h : Fr Nil w W) => act_row (HC.out.fr h) hq)
        have hp0 := HR.out.cell 0
        simp [rc] at hp0
        clear hkl hq hnc'
        generalize hwk : wr = wk at *
        clear hwk
        go_upto_region 11 with fail
        refine wp_region_held (S := fun w' => w'.rangeAt gA (o + k * 19) (ac q.1 q.2).toList) (by kernel_rfl) ?_
        have HD0 : Fr Nil wk wk.drew := (Fr.refl Nil wk).drew
        have fz0 : Fr Nil w wk.drew := HF.out.trans HD0
        change wpAnyH _ _ _ _ _ _ _ _ (World.drew _)
        refine wpAnyH_take (i := 0) (v := .pointer (some ⟨g, 0, none⟩)) rfl (by kernel_rfl) (by kernel_rfl) (by kernel_rfl) (fun _ _ _ h => h) (Or.inl ⟨by rfl, fun w' hw' => by first | (go_simp; done) | (go_simp; rfl)⟩) (KS.out _ fz0) ?_
        (try simp only [Act.put, List.getElem_toArray, List.getElem_cons_zero, List.getElem_cons_succ, List.setIfInBounds_toArray, List.set_cons_zero, List.set_cons_succ])
        refine wpAnyH_take (i := 1) (v := .pointer (some ⟨x, 0, none⟩)) rfl (by kernel_rfl) (by kernel_rfl) (by kernel_rfl) (fun _ _ _ h => h) (Or.inl ⟨by rfl, fun w' hw' => by first | (go_simp; done) | (go_simp; rfl)⟩) (KS.out _ fz0) ?_
        (try simp only [Act.put, List.getElem_toArray, List.getElem_cons_zero, List.getElem_cons_succ, List.setIfInBounds_toArray, List.set_cons_zero, List.set_cons_succ])
        refine wpAnyH_take (i := 2) (v := .slice (some ⟨gA, o, none⟩) n c) rfl (by kernel_rfl) (by kernel_rfl) (by kernel_rfl) (fun _ _ _ h => h) (Or.inl ⟨by rfl, fun w' hw' => by first | (go_simp; done) | (go_simp; rfl)⟩) (KS.out _ fz0) ?_
        (try simp only [Act.put, List.getElem_toArray, List.getElem_cons_zero, List.getElem_cons_succ, List.setIfInBounds_toArray, List.set_cons_zero, List.set_cons_succ])
        refine wpAnyH_take (i := 3) (v := .int .i64 k) rfl (by kernel_rfl) (by kernel_rfl) (by kernel_rfl) (fun _ _ _ h => h) (Or.inl ⟨by rfl, fun w' hw' => by first | (go_simp; done) | (go_simp; rfl)⟩) (KS.out _ fz0) ?_
        (try simp only [Act.put, List.getElem_toArray, List.getElem_cons_zero, List.getElem_cons_succ, List.setIfInBounds_toArray, List.set_cons_zero, List.set_cons_succ])
        refine wpAnyH_take (i := 4) (v := .pointer (some ⟨gA, o + k * 19, none⟩)) rfl (by kernel_rfl) (by kernel_rfl) (by kernel_rfl) (fun _ _ _ h => h) (Or.inl ⟨by rfl, fun w' hw' => by first | (go_simp; done) | (go_simp; rfl)⟩) (KS.out _ fz0) ?_
        (try simp only [Act.put, List.getElem_toArray, List.getElem_cons_zero, List.getElem_cons_succ, List.setIfInBounds_toArray, List.set_cons_zero, List.set_cons_succ])
        refine wpAnyH_take (i := 5) (v := .agg (ac q.1 q.2)) rfl (by kernel_rfl) (by kernel_rfl) (by kernel_rfl) (fun _ _ _ h => h) (yields_act (by rfl) rfl (fun _ h => h)) (KS.out _ fz0) ?_
        (try simp only [Act.put, List.getElem_toArray, List.getElem_cons_zero, List.getElem_cons_succ, List.setIfInBounds_toArray, List.set_cons_zero, List.set_cons_succ])
        refine wpAnyH_all (rs := [6]) (by kernel_rfl) (by simp) (fun i hi => ?_)
        obtain rfl : i = 6 := by simpa using hi
        refine wpOp_step rfl (fun K hK => ?_)
        go_simp
        refine (KD.out _ _ _ _ _ _ _ _ (HS.out.fr HD0 id) (HR.out.fr HD0 id) HI.out HGX.out).mono ?_
        rintro e wd ⟨rfl, hfd, p', r', t', hs', hr', hi', hn'⟩
        have fzd : Fr Nil w wd := fz0.then hfd (fun j hj hlt => by have := HX.out; have := HGE.out; omega)
        refine hK _ _ ⟨(KS.out _ fzd), ?_⟩
        clear hK K hi
        (try simp only [Act.put, List.getElem_toArray, List.getElem_cons_zero, List.getElem_cons_succ, List.setIfInBounds_toArray, List.set_cons_zero, List.set_cons_succ])
        have HSd := Lib.hid hs'
        have HRd := Lib.hid hr'
        have HId := Lib.hid hi'
        have HNd := Lib.hid hn'
        clear hs' hr' hi' hn' hfd
        have KS2 := Lib.hid (fun W (h : Fr Nil wd W) => (show W.rangeAt gA (o + k * 19) (ac q.1 q.2).toList ∧ Rs W x p' r' t' b from ⟨KS.out _ (fzd.trans h), HRd.out.fr h id⟩))
        refine wpAnyH_strong (S' := fun w' => w'.rangeAt gA (o + k * 19) (ac q.1 q.2).toList ∧ Rs w' x p' r' t' b) (fun _ h => h.1) _ _ _ _ ?_
        have fe0 : Fr Nil wd wd := Fr.refl _ _
        refine wpAnyH_take (i := 7) (v := .bool false) rfl (by kernel_rfl) (by kernel_rfl) (by kernel_rfl) (fun _ _ _ h => h) (Or.inl ⟨by rfl, fun w' hw' => by first | (go_simp; done) | (go_simp; rfl)⟩) (KS2.out _ fe0) ?_
        (try simp only [Act.put, List.getElem_toArray, List.getElem_cons_zero, List.getElem_cons_succ, List.setIfInBounds_toArray, List.set_cons_zero, List.set_cons_succ])
        refine wpAnyH_take (i := 8) (v := .bool false) rfl (by kernel_rfl) (by kernel_rfl) (by kernel_rfl) (fun _ _ _ h => h) (Or.inl ⟨by rfl, fun w' hw' => by first | (go_simp; done) | (go_simp; rfl)⟩) (KS2.out _ fe0) ?_
        (try simp only [Act.put, List.getElem_toArray, List.getElem_cons_zero, List.getElem_cons_succ, List.setIfInBounds_toArray, List.set_cons_zero, List.set_cons_succ])
        refine wpAnyH_take (i := 9) (v := .pointer (some ⟨g, 0, none⟩)) rfl (by kernel_rfl) (by kernel_rfl) (by kernel_rfl) (fun _ _ _ h => h) (Or.inl ⟨by rfl, fun w' hw' => by first | (go_simp; done) | (go_simp; rfl)⟩) (KS2.out _ fe0) ?_
        (try simp only [Act.put, List.getElem_toArray, List.getElem_cons_zero, List.getElem_cons_succ, List.setIfInBounds_toArray, List.set_cons_zero, List.set_cons_succ])
        refine wpAnyH_take (i := 11) (v := .pointer (some ⟨x, 0, none⟩)) rfl (by kernel_rfl) (by kernel_rfl) (by kernel_rfl) (fun _ _ _ h => h) (Or.inl ⟨by rfl, fun w' hw' => by first | (go_simp; done) | (go_simp; rfl)⟩) (KS2.out _ fe0) ?_
        (try simp only [Act.put, List.getElem_toArray, List.getElem_cons_zero, List.getElem_cons_succ, List.setIfInBounds_toArray, List.set_cons_zero, List.set_cons_succ])
        refine wpAnyH_take (i := 12) (v := .pointer (some ⟨x, 0, none⟩)) rfl (by kernel_rfl) (by kernel_rfl) (by kernel_rfl) (fun _ _ _ h => h) (Or.inl ⟨by rfl, fun w' hw' => by first | (go_simp; done) | (go_simp; rfl)⟩) (KS2.out _ fe0) ?_
        (try simp only [Act.put, List.getElem_toArray, List.getElem_cons_zero, List.getElem_cons_succ, List.setIfInBounds_toArray, List.set_cons_zero, List.set_cons_succ])
        refine wpAnyH_take (i := 13) (v := .pointer (some ⟨x, 0, none⟩)) rfl (by kernel_rfl) (by kernel_rfl) (by kernel_rfl) (fun _ _ _ h => h) (Or.inl ⟨by rfl, fun w' hw' => by first | (go_simp; done) | (go_simp; rfl)⟩) (KS2.out _ fe0) ?_
        (try simp only [Act.put, List.getElem_toArray, List.getElem_cons_zero, List.getElem_cons_succ, List.setIfInBounds_toArray, List.set_cons_zero, List.set_cons_succ])
        refine wpAnyH_take (i := 14) (v := .int .i64 p') rfl (by kernel_rfl) (by kernel_rfl) (by kernel_rfl) (fun _ _ _ h => h) (Or.inl ⟨by rfl, fun w' hw' => by have c0 := Bk.cell hw'.2 0; simp [rc] at c0; first | (go_simp; done) | (go_simp; rfl)⟩) (KS2.out _ fe0) ?_
        (try simp only [Act.put, List.getElem_toArray, List.getElem_cons_zero, List.getElem_cons_succ, List.setIfInBounds_toArray, List.set_cons_zero, List.set_cons_succ])
        refine wpAnyH_all (rs := [10]) (by kernel_rfl) (by simp) (fun i hi => ?_)
        obtain rfl : i = 10 := by simpa using hi
        refine wpOp_step rfl (fun K hK => ?_)
        go_simp
        refine (KP.out _ _ _ _ _ (HSd.out.fr fe0 id)).mono ?_
        rintro e wc1 ⟨rfl, hfc⟩
        have fe1 : Fr Nil wd wc1 := fe0.trans hfc
        refine hK _ _ ⟨(KS2.out _ fe1), ?_⟩
        clear hK K hi
        (try simp only [Act.put, List.getElem_toArray, List.getElem_cons_zero, List.getElem_cons_succ, List.setIfInBounds_toArray, List.set_cons_zero, List.set_cons_succ])
        clear hfc
        refine wpAnyH_take (i := 15) (v := .bool false) rfl (by kernel_rfl) (by kernel_rfl) (by kernel_rfl) (fun _ _ _ h => h) (Or.inl ⟨by rfl, fun w' hw' => by first | (go_simp; done) | (go_simp; rfl)⟩) (KS2.out _ fe1) ?_
        (try simp only [Act.put, List.getElem_toArray, List.getElem_cons_zero, List.getElem_cons_succ, List.setIfInBounds_toArray, List.set_cons_zero, List.set_cons_succ])
        refine wpAnyH_take (i := 16) (v := .bool false) rfl (by kernel_rfl) (by kernel_rfl) (by kernel_rfl) (fun _ _ _ h => h) (Or.inl ⟨by rfl, fun w' hw' => by first | (go_simp; done) | (go_simp; rfl)⟩) (KS2.out _ fe1) ?_
        (try simp only [Act.put, List.getElem_toArray, List.getElem_cons_zero, List.getElem_cons_succ, List.setIfInBounds_toArray, List.set_cons_zero, List.set_cons_succ])
        refine wpAnyH_take (i := 17) (v := .bool false) rfl (by kernel_rfl) (by kernel_rfl) (by kernel_rfl) (fun _ _ _ h => h) (Or.inl ⟨by rfl, fun w' hw' => by first | (go_simp; done) | (go_simp; rfl)⟩) (KS2.out _ fe1) ?_
        (try simp only [Act.put, List.getElem_toArray, List.getElem_cons_zero, List.getElem_cons_succ, List.setIfInBounds_toArray, List.set_cons_zero, List.set_cons_succ])
        refine wpAnyH_take (i := 18) (v := .pointer (some ⟨g, 0, none⟩)) rfl (by kernel_rfl) (by kernel_rfl) (by kernel_rfl) (fun _ _ _ h => h) (Or.inl ⟨by rfl, fun w' hw' => by first | (go_simp; done) | (go_simp; rfl)⟩) (KS2.out _ fe1) ?_
        (try simp only [Act.put, List.getElem_toArray, List.getElem_cons_zero, List.getElem_cons_succ, List.setIfInBounds_toArray, List.set_cons_zero, List.set_cons_succ])
        refine wpAnyH_take (i := 20) (v := .pointer (some ⟨x, 0, none⟩)) rfl (by kernel_rfl) (by kernel_rfl) (by kernel_rfl) (fun _ _ _ h => h) (Or.inl ⟨by rfl, fun w' hw' => by first | (go_simp; done) | (go_simp; rfl)⟩) (KS2.out _ fe1) ?_
        (try simp only [Act.put, List.getElem_toArray, List.getElem_cons_zero, List.getElem_cons_succ, List.setIfInBounds_toArray, List.set_cons_zero, List.set_cons_succ])
        refine wpAnyH_take (i := 21) (v := .pointer (some ⟨x, 0, none⟩)) rfl (by kernel_rfl) (by kernel_rfl) (by kernel_rfl) (fun _ _ _ h => h) (Or.inl ⟨by rfl, fun w' hw' => by first | (go_simp; done) | (go_simp; rfl)⟩) (KS2.out _ fe1) ?_
        (try simp only [Act.put, List.getElem_toArray, List.getElem_cons_zero, List.getElem_cons_succ, List.setIfInBounds_toArray, List.set_cons_zero, List.set_cons_succ])
        refine wpAnyH_take (i := 22) (v := .pointer (some ⟨x, 1, none⟩)) rfl (by kernel_rfl) (by kernel_rfl) (by kernel_rfl) (fun _ _ _ h => h) (Or.inl ⟨by rfl, fun w' hw' => by first | (go_simp; done) | (go_simp; rfl)⟩) (KS2.out _ fe1) ?_
        (try simp only [Act.put, List.getElem_toArray, List.getElem_cons_zero, List.getElem_cons_succ, List.setIfInBounds_toArray, List.set_cons_zero, List.set_cons_succ])
        refine wpAnyH_take (i := 23) (v := .int .i64 t') rfl (by kernel_rfl) (by kernel_rfl) (by kernel_rfl) (fun _ _ _ h => h) (Or.inl ⟨by rfl, fun w' hw' => by have c1 := Bk.cell hw'.2 1; simp [rc] at c1; first | (go_simp; done) | (go_simp; rfl)⟩) (KS2.out _ fe1) ?_
        (try simp only [Act.put, List.getElem_toArray, List.getElem_cons_zero, List.getElem_cons_succ, List.setIfInBounds_toArray, List.set_cons_zero, List.set_cons_succ])
        refine wpAnyH_all (rs := [19]) (by kernel_rfl) (by simp) (fun i hi => ?_)
        obtain rfl : i = 19 := by simpa using hi
        refine wpOp_step rfl (fun K hK => ?_)
        go_simp
        refine (KT.out _ _ _ _ _ (HSd.out.fr fe1 id)).mono ?_
        rintro e wc2 ⟨rfl, hfc⟩
        have fe2 : Fr Nil wd wc2 := fe1.trans hfc
        refine hK _ _ ⟨(KS2.out _ fe2), ?_⟩
        clear hK K hi
        (try simp only [Act.put, List.getElem_toArray, List.getElem_cons_zero, List.getElem_cons_succ, List.setIfInBounds_toArray, List.set_cons_zero, List.set_cons_succ])
        clear hfc
        refine wpAnyH_take (i := 24) (v := .bool false) rfl (by kernel_rfl) (by kernel_rfl) (by kernel_rfl) (fun _ _ _ h => h) (Or.inl ⟨by rfl, fun w' hw' => by first | (go_simp; done) | (go_simp; rfl)⟩) (KS2.out _ fe2) ?_
        (try simp only [Act.put, List.getElem_toArray, List.getElem_cons_zero, List.getElem_cons_succ, List.setIfInBounds_toArray, List.set_cons_zero, List.set_cons_succ])
        refine wpAnyH_take (i := 25) (v := .bool false) rfl (by kernel_rfl) (by kernel_rfl) (by kernel_rfl) (fun _ _ _ h => h) (Or.inl ⟨by rfl, fun w' hw' => by first | (go_simp; done) | (go_simp; rfl)⟩) (KS2.out _ fe2) ?_
        (try simp only [Act.put, List.getElem_toArray, List.getElem_cons_zero, List.getElem_cons_succ, List.setIfInBounds_toArray, List.set_cons_zero, List.set_cons_succ])
        refine wpAnyH_take (i := 26) (v := .bool false) rfl (by kernel_rfl) (by kernel_rfl) (by kernel_rfl) (fun _ _ _ h => h) (Or.inl ⟨by rfl, fun w' hw' => by first | (go_simp; done) | (go_simp; rfl)⟩) (KS2.out _ fe2) ?_
        (try simp only [Act.put, List.getElem_toArray, List.getElem_cons_zero, List.getElem_cons_succ, List.setIfInBounds_toArray, List.set_cons_zero, List.set_cons_succ])
        refine wpAnyH_take (i := 27) (v := .pointer (some ⟨g, 0, none⟩)) rfl (by kernel_rfl) (by kernel_rfl) (by kernel_rfl) (fun _ _ _ h => h) (Or.inl ⟨by rfl, fun w' hw' => by first | (go_simp; done) | (go_simp; rfl)⟩) (KS2.out _ fe2) ?_
        (try simp only [Act.put, List.getElem_toArray, List.getElem_cons_zero, List.getElem_cons_succ, List.setIfInBounds_toArray, List.set_cons_zero, List.set_cons_succ])
        refine wpAnyH_take (i := 29) (v := .int .i64 b) rfl (by kernel_rfl) (by kernel_rfl) (by kernel_rfl) (fun _ _ _ h => h) (Or.inl ⟨by rfl, fun w' hw' => by first | (go_simp; done) | (go_simp; rfl)⟩) (KS2.out _ fe2) ?_
        (try simp only [Act.put, List.getElem_toArray, List.getElem_cons_zero, List.getElem_cons_succ, List.setIfInBounds_toArray, List.set_cons_zero, List.set_cons_succ])
        refine wpAnyH_all (rs := [28]) (by kernel_rfl) (by simp) (fun i hi => ?_)
        obtain rfl : i = 28 := by simpa using hi
        refine wpOp_step rfl (fun K hK => ?_)
        go_simp
        refine (KB.out _ _ _ _ _ (HSd.out.fr fe2 id)).mono ?_
        rintro e wc3 ⟨rfl, hfc⟩
        have fe3 : Fr Nil wd wc3 := fe2.trans hfc
        refine hK _ _ ⟨(KS2.out _ fe3), ?_⟩
        clear hK K hi
        (try simp only [Act.put, List.getElem_toArray, List.getElem_cons_zero, List.getElem_cons_succ, List.setIfInBounds_toArray, List.set_cons_zero, List.set_cons_succ])
        clear hfc
        refine wpAnyH_take (i := 30) (v := .bool false) rfl (by kernel_rfl) (by kernel_rfl) (by kernel_rfl) (fun _ _ _ h => h) (Or.inl ⟨by rfl, fun w' hw' => by first | (go_simp; done) | (go_simp; rfl)⟩) (KS2.out _ fe3) ?_
        (try simp only [Act.put, List.getElem_toArray, List.getElem_cons_zero, List.getElem_cons_succ, List.setIfInBounds_toArray, List.set_cons_zero, List.set_cons_succ])
        refine wpAnyH_take (i := 31) (v := .bool false) rfl (by kernel_rfl) (by kernel_rfl) (by kernel_rfl) (fun _ _ _ h => h) (Or.inl ⟨by rfl, fun w' hw' => by first | (go_simp; done) | (go_simp; rfl)⟩) (KS2.out _ fe3) ?_
        (try simp only [Act.put, List.getElem_toArray, List.getElem_cons_zero, List.getElem_cons_succ, List.setIfInBounds_toArray, List.set_cons_zero, List.set_cons_succ])
        refine wpAnyH_done (by kernel_rfl) ?_ _
        have HSe := Lib.hid (HSd.out.fr fe3 id)
        have HRe := Lib.hid (HRd.out.fr fe3 id)
        have HFe := Lib.hid (fzd.trans fe3)
        clear KS KS2 fe0 fe1 fe2 fe3 fzd HD0 fz0 HS HR HI
        generalize wc3 = w5 at *
        obtain ⟨z, is, kq, hz⟩ := request_step HId.out
        have KQ := Lib.hid kq
        clear kq
        rcases hz with ⟨rfl, hz1, hz3, rfl⟩ | ⟨rfl, rfl, rfl⟩ | ⟨rfl, rfl, rfl⟩
        · skip
          by_cases hpp : p' = p
          · subst hpp
            go_wp2_with fail
            refine (KQ.out _ _ HSe.out).mono ?_
            rintro e w6 ⟨rfl, hf6⟩
            have HX6 := Lib.hid (Bk.new w6 40 #[.int .i64 0, .int .i64 0, .int .i64 0, .int .i64 0, .int .i64 0, .int .i64 0, .int .i64 0, .int .i64 0, .int .i64 0, .int .i64 0, .int .i64 0, .int .i64 0, .int .i64 0, .int .i64 0, .int .i64 0, .int .i64 0, .int .i64 0, .int .i64 0])
            have HS6 := Lib.hid ((HSe.out.fr hf6 id).alloc (.cells #[.int .i64 0, .int .i64 0, .int .i64 0, .int .i64 0, .int .i64 0, .int .i64 0, .int .i64 0, .int .i64 0, .int .i64 0, .int .i64 0, .int .i64 0, .int .i64 0, .int .i64 0, .int .i64 0, .int .i64 0, .int .i64 0, .int .i64 0, .int .i64 0] 40))
            have HR6 := Lib.hid ((HRe.out.fr hf6 id).alloc (.cells #[.int .i64 0, .int .i64 0, .int .i64 0, .int .i64 0, .int .i64 0, .int .i64 0, .int .i64 0, .int .i64 0, .int .i64 0, .int .i64 0, .int .i64 0, .int .i64 0, .int .i64 0, .int .i64 0, .int .i64 0, .int .i64 0, .int .i64 0, .int .i64 0] 40))
            have HF6 := Lib.hid ((HFe.out.trans hf6).alloc (.cells #[.int .i64 0, .int .i64 0, .int .i64 0, .int .i64 0, .int .i64 0, .int .i64 0, .int .i64 0, .int .i64 0, .int .i64 0, .int .i64 0, .int .i64 0, .int .i64 0, .int .i64 0, .int .i64 0, .int .i64 0, .int .i64 0, .int .i64 0, .int .i64 0] 40))
            have hs6 := (HSe.out.fr hf6 id).lt
            have hr6 := (HRe.out.fr hf6 id).lt
            have hw6 : w.heap.size ≤ w6.heap.size := (HFe.out.trans hf6).size
            clear hf6
            go_upto_region 14 with (first
              | (with_reducible refine wpList_storeQ (x := .tmp 10) (y := .tmp 90) (q := r') ?_ ?_ HX6.out ?_ ?_); rfl; rfl; rfl; intro w7 hb7 hf7; have HX7 := Lib.hid hb7; have HS7 := Lib.hid (HS6.out.fr hf7 (by omega)); have HR7 := Lib.hid (HR6.out.fr hf7 (by omega)); have HF7 := Lib.hid (HF6.out.then hf7 (fun j hj hlt => by omega)); clear hb7 hf7)
            have c0 := fun (u : FrW Nil w7) => (HR7.out.fr u.fr id).cell 0
            simp [rc] at c0
            have cx : ∀ W, (∃ u : FrW Nil w7, W = u.val) → Bk W w6.heap.size 40 (qc r') := fun W ⟨u, hu⟩ => by rw [hu]; exact HX7.out.fr u.fr id
            have cr : ∀ W, (∃ u : FrW Nil w7, W = u.val) → Rs W x p' r' t' b := fun W ⟨u, hu⟩ => by rw [hu]; exact HR7.out.fr u.fr id
            have CX := Lib.hid cx
            have CR := Lib.hid cr
            clear cx cr hs6 hr6 hw6
            refine wp_region_quiet_fr Nil (by kernel_rfl) (by kernel_rfl) ?_
            repeat (first
              | ((with_reducible refine wpQuiet_loadQ (dst := some 109) (r := r') ?_ ?_ CX.out ?_); rfl; rfl; simp only [Act.put, List.getElem_toArray, List.getElem_cons_zero, List.getElem_cons_succ, List.setIfInBounds_toArray, List.set_cons_zero, List.set_cons_succ])
              | ((with_reducible refine wpQuiet_loadR (dst := some 113) ?_ ?_ CR.out ?_); rfl; rfl; simp only [Act.put, List.getElem_toArray, List.getElem_cons_zero, List.getElem_cons_succ, List.setIfInBounds_toArray, List.set_cons_zero, List.set_cons_succ])
              | ((with_reducible refine wpQuiet_neS (dst := some 114) (q := r') ?_ ?_ ?_ ?_); rfl; rfl; rfl; simp only [Act.put, List.getElem_toArray, List.getElem_cons_zero, List.getElem_cons_succ, List.setIfInBounds_toArray, List.set_cons_zero, List.set_cons_succ])
              | go_big_quiet_step (fail))
            refine wpQuiet_nil ?_
            intro _ hw'
            obtain ⟨⟨wq, hfq⟩, hw''⟩ := hw'
            subst hw''
            have HS8 := Lib.hid (HS7.out.fr hfq id)
            have HR8 := Lib.hid (HR7.out.fr hfq id)
            have HF8 := Lib.hid (HF7.out.trans hfq)
            clear hfq c0 CX CR
            go_wp2_with fail
            go_round
            case rel => exact ⟨k + 1, p', r', t', by go_num, by omega, by omega, HS8.out, HR8.out, HId.out, HF8.out⟩
            case measure => simp [intOf]; omega
          · have HNX := Lib.hid (HNd.out.resolve_left hpp)
            have npp : (p' != p) = true := by simpa using hpp
            clear hpp
            go_wp2_with fail
            refine (KQ.out _ _ HSe.out).mono ?_
            rintro e w6 ⟨rfl, hf6⟩
            have HX6 := Lib.hid (Bk.new w6 40 #[.int .i64 0, .int .i64 0, .int .i64 0, .int .i64 0, .int .i64 0, .int .i64 0, .int .i64 0, .int .i64 0, .int .i64 0, .int .i64 0, .int .i64 0, .int .i64 0, .int .i64 0, .int .i64 0, .int .i64 0, .int .i64 0, .int .i64 0, .int .i64 0])
            have HS6 := Lib.hid ((HSe.out.fr hf6 id).alloc (.cells #[.int .i64 0, .int .i64 0, .int .i64 0, .int .i64 0, .int .i64 0, .int .i64 0, .int .i64 0, .int .i64 0, .int .i64 0, .int .i64 0, .int .i64 0, .int .i64 0, .int .i64 0, .int .i64 0, .int .i64 0, .int .i64 0, .int .i64 0, .int .i64 0] 40))
            have HR6 := Lib.hid ((HRe.out.fr hf6 id).alloc (.cells #[.int .i64 0, .int .i64 0, .int .i64 0, .int .i64 0, .int .i64 0, .int .i64 0, .int .i64 0, .int .i64 0, .int .i64 0, .int .i64 0, .int .i64 0, .int .i64 0, .int .i64 0, .int .i64 0, .int .i64 0, .int .i64 0, .int .i64 0, .int .i64 0] 40))
            have HF6 := Lib.hid ((HFe.out.trans hf6).alloc (.cells #[.int .i64 0, .int .i64 0, .int .i64 0, .int .i64 0, .int .i64 0, .int .i64 0, .int .i64 0, .int .i64 0, .int .i64 0, .int .i64 0, .int .i64 0, .int .i64 0, .int .i64 0, .int .i64 0, .int .i64 0, .int .i64 0, .int .i64 0, .int .i64 0] 40))
            have hs6 := (HSe.out.fr hf6 id).lt
            have hr6 := (HRe.out.fr hf6 id).lt
            have hw6 : w.heap.size ≤ w6.heap.size := (HFe.out.trans hf6).size
            clear hf6
            go_upto_region 14 with (first
              | (with_reducible refine wpList_storeQ (x := .tmp 10) (y := .tmp 90) (q := r') ?_ ?_ HX6.out ?_ ?_); rfl; rfl; rfl; intro w7 hb7 hf7; have HX7 := Lib.hid hb7; have HS7 := Lib.hid (HS6.out.fr hf7 (by omega)); have HR7 := Lib.hid (HR6.out.fr hf7 (by omega)); have HF7 := Lib.hid (HF6.out.then hf7 (fun j hj hlt => by omega)); clear hb7 hf7)
            have c0 := fun (u : FrW Nil w7) => (HR7.out.fr u.fr id).cell 0
            simp [rc] at c0
            have cx : ∀ W, (∃ u : FrW Nil w7, W = u.val) → Bk W w6.heap.size 40 (qc r') := fun W ⟨u, hu⟩ => by rw [hu]; exact HX7.out.fr u.fr id
            have cr : ∀ W, (∃ u : FrW Nil w7, W = u.val) → Rs W x p' r' t' b := fun W ⟨u, hu⟩ => by rw [hu]; exact HR7.out.fr u.fr id
            have CX := Lib.hid cx
            have CR := Lib.hid cr
            clear cx cr hs6 hr6 hw6
            refine wp_region_quiet_fr Nil (by kernel_rfl) (by kernel_rfl) ?_
            repeat (first
              | ((with_reducible refine wpQuiet_loadQ (dst := some 109) (r := r') ?_ ?_ CX.out ?_); rfl; rfl; simp only [Act.put, List.getElem_toArray, List.getElem_cons_zero, List.getElem_cons_succ, List.setIfInBounds_toArray, List.set_cons_zero, List.set_cons_succ])
              | ((with_reducible refine wpQuiet_loadR (dst := some 113) ?_ ?_ CR.out ?_); rfl; rfl; simp only [Act.put, List.getElem_toArray, List.getElem_cons_zero, List.getElem_cons_succ, List.setIfInBounds_toArray, List.set_cons_zero, List.set_cons_succ])
              | ((with_reducible refine wpQuiet_neS (dst := some 114) (q := r') ?_ ?_ ?_ ?_); rfl; rfl; rfl; simp only [Act.put, List.getElem_toArray, List.getElem_cons_zero, List.getElem_cons_succ, List.setIfInBounds_toArray, List.set_cons_zero, List.set_cons_succ])
              | go_big_quiet_step (first
                | (go_at_call 13; with_reducible exact quiet_call (KN.out _ _ _ HNX.out))))
            refine wpQuiet_nil ?_
            intro _ hw'
            obtain ⟨⟨wq, hfq⟩, hw''⟩ := hw'
            subst hw''
            have HS8 := Lib.hid (HS7.out.fr hfq id)
            have HR8 := Lib.hid (HR7.out.fr hfq id)
            have HF8 := Lib.hid (HF7.out.trans hfq)
            clear hfq c0 CX CR
            go_wp2_with fail
            go_round
            case rel => exact ⟨k + 1, p', r', t', by go_num, by omega, by omega, HS8.out, HR8.out, HId.out, HF8.out⟩
            case measure => simp [intOf]; omega
        · skip
          by_cases hpp : p = 0
          · subst hpp
            go_wp2_with fail
            refine (KQ.out _ _ HSe.out).mono ?_
            rintro e w6 ⟨rfl, hf6⟩
            have HX6 := Lib.hid (Bk.new w6 40 #[.int .i64 0, .int .i64 0, .int .i64 0, .int .i64 0, .int .i64 0, .int .i64 0, .int .i64 0, .int .i64 0, .int .i64 0, .int .i64 0, .int .i64 0, .int .i64 0, .int .i64 0, .int .i64 0, .int .i64 0, .int .i64 0, .int .i64 0, .int .i64 0])
            have HS6 := Lib.hid ((HSe.out.fr hf6 id).alloc (.cells #[.int .i64 0, .int .i64 0, .int .i64 0, .int .i64 0, .int .i64 0, .int .i64 0, .int .i64 0, .int .i64 0, .int .i64 0, .int .i64 0, .int .i64 0, .int .i64 0, .int .i64 0, .int .i64 0, .int .i64 0, .int .i64 0, .int .i64 0, .int .i64 0] 40))
            have HR6 := Lib.hid ((HRe.out.fr hf6 id).alloc (.cells #[.int .i64 0, .int .i64 0, .int .i64 0, .int .i64 0, .int .i64 0, .int .i64 0, .int .i64 0, .int .i64 0, .int .i64 0, .int .i64 0, .int .i64 0, .int .i64 0, .int .i64 0, .int .i64 0, .int .i64 0, .int .i64 0, .int .i64 0, .int .i64 0] 40))
            have HF6 := Lib.hid ((HFe.out.trans hf6).alloc (.cells #[.int .i64 0, .int .i64 0, .int .i64 0, .int .i64 0, .int .i64 0, .int .i64 0, .int .i64 0, .int .i64 0, .int .i64 0, .int .i64 0, .int .i64 0, .int .i64 0, .int .i64 0, .int .i64 0, .int .i64 0, .int .i64 0, .int .i64 0, .int .i64 0] 40))
            have hs6 := (HSe.out.fr hf6 id).lt
            have hr6 := (HRe.out.fr hf6 id).lt
            have hw6 : w.heap.size ≤ w6.heap.size := (HFe.out.trans hf6).size
            clear hf6
            go_upto_region 14 with (first
              | (with_reducible refine wpList_storeQ (x := .tmp 10) (y := .tmp 90) (q := zQ) ?_ ?_ HX6.out ?_ ?_); rfl; rfl; rfl; intro w7 hb7 hf7; have HX7 := Lib.hid hb7; have HS7 := Lib.hid (HS6.out.fr hf7 (by omega)); have HR7 := Lib.hid (HR6.out.fr hf7 (by omega)); have HF7 := Lib.hid (HF6.out.then hf7 (fun j hj hlt => by omega)); clear hb7 hf7)
            have c0 := fun (u : FrW Nil w7) => (HR7.out.fr u.fr id).cell 0
            simp [rc] at c0
            have cx : ∀ W, (∃ u : FrW Nil w7, W = u.val) → Bk W w6.heap.size 40 (qc zQ) := fun W ⟨u, hu⟩ => by rw [hu]; exact HX7.out.fr u.fr id
            have cr : ∀ W, (∃ u : FrW Nil w7, W = u.val) → Rs W x 0 r' t' b := fun W ⟨u, hu⟩ => by rw [hu]; exact HR7.out.fr u.fr id
            have CX := Lib.hid cx
            have CR := Lib.hid cr
            clear cx cr hs6 hr6 hw6
            refine wp_region_quiet_fr Nil (by kernel_rfl) (by kernel_rfl) ?_
            repeat (first
              | ((with_reducible refine wpQuiet_loadQ (dst := some 121) (r := zQ) ?_ ?_ CX.out ?_); rfl; rfl; simp only [Act.put, List.getElem_toArray, List.getElem_cons_zero, List.getElem_cons_succ, List.setIfInBounds_toArray, List.set_cons_zero, List.set_cons_succ])
              | ((with_reducible refine wpQuiet_neS (dst := some 123) (q := zQ) ?_ ?_ ?_ ?_); rfl; rfl; rfl; simp only [Act.put, List.getElem_toArray, List.getElem_cons_zero, List.getElem_cons_succ, List.setIfInBounds_toArray, List.set_cons_zero, List.set_cons_succ])
              | go_big_quiet_step (fail))
            refine wpQuiet_nil ?_
            intro _ hw'
            obtain ⟨⟨wq, hfq⟩, hw''⟩ := hw'
            subst hw''
            have HS8 := Lib.hid (HS7.out.fr hfq id)
            have HR8 := Lib.hid (HR7.out.fr hfq id)
            have HF8 := Lib.hid (HF7.out.trans hfq)
            clear hfq c0 CX CR
            go_wp2_with fail
            go_round
            case rel => exact ⟨k + 1, 0, r', t', by go_num, by omega, by omega, HS8.out, HR8.out, HId.out, HF8.out⟩
            case measure => simp [intOf]; omega
          · have HNX := Lib.hid (HNd.out.resolve_left (fun e => hpp e.symm))
            have npp : ((0 : Int) != p) = true := by simpa using (fun e => hpp e.symm)
            clear hpp
            go_wp2_with fail
            refine (KQ.out _ _ HSe.out).mono ?_
            rintro e w6 ⟨rfl, hf6⟩
            have HX6 := Lib.hid (Bk.new w6 40 #[.int .i64 0, .int .i64 0, .int .i64 0, .int .i64 0, .int .i64 0, .int .i64 0, .int .i64 0, .int .i64 0, .int .i64 0, .int .i64 0, .int .i64 0, .int .i64 0, .int .i64 0, .int .i64 0, .int .i64 0, .int .i64 0, .int .i64 0, .int .i64 0])
            have HS6 := Lib.hid ((HSe.out.fr hf6 id).alloc (.cells #[.int .i64 0, .int .i64 0, .int .i64 0, .int .i64 0, .int .i64 0, .int .i64 0, .int .i64 0, .int .i64 0, .int .i64 0, .int .i64 0, .int .i64 0, .int .i64 0, .int .i64 0, .int .i64 0, .int .i64 0, .int .i64 0, .int .i64 0, .int .i64 0] 40))
            have HR6 := Lib.hid ((HRe.out.fr hf6 id).alloc (.cells #[.int .i64 0, .int .i64 0, .int .i64 0, .int .i64 0, .int .i64 0, .int .i64 0, .int .i64 0, .int .i64 0, .int .i64 0, .int .i64 0, .int .i64 0, .int .i64 0, .int .i64 0, .int .i64 0, .int .i64 0, .int .i64 0, .int .i64 0, .int .i64 0] 40))
            have HF6 := Lib.hid ((HFe.out.trans hf6).alloc (.cells #[.int .i64 0, .int .i64 0, .int .i64 0, .int .i64 0, .int .i64 0, .int .i64 0, .int .i64 0, .int .i64 0, .int .i64 0, .int .i64 0, .int .i64 0, .int .i64 0, .int .i64 0, .int .i64 0, .int .i64 0, .int .i64 0, .int .i64 0, .int .i64 0] 40))
            have hs6 := (HSe.out.fr hf6 id).lt
            have hr6 := (HRe.out.fr hf6 id).lt
            have hw6 : w.heap.size ≤ w6.heap.size := (HFe.out.trans hf6).size
            clear hf6
            go_upto_region 14 with (first
              | (with_reducible refine wpList_storeQ (x := .tmp 10) (y := .tmp 90) (q := zQ) ?_ ?_ HX6.out ?_ ?_); rfl; rfl; rfl; intro w7 hb7 hf7; have HX7 := Lib.hid hb7; have HS7 := Lib.hid (HS6.out.fr hf7 (by omega)); have HR7 := Lib.hid (HR6.out.fr hf7 (by omega)); have HF7 := Lib.hid (HF6.out.then hf7 (fun j hj hlt => by omega)); clear hb7 hf7)
            have c0 := fun (u : FrW Nil w7) => (HR7.out.fr u.fr id).cell 0
            simp [rc] at c0
            have cx : ∀ W, (∃ u : FrW Nil w7, W = u.val) → Bk W w6.heap.size 40 (qc zQ) := fun W ⟨u, hu⟩ => by rw [hu]; exact HX7.out.fr u.fr id
            have cr : ∀ W, (∃ u : FrW Nil w7, W = u.val) → Rs W x 0 r' t' b := fun W ⟨u, hu⟩ => by rw [hu]; exact HR7.out.fr u.fr id
            have CX := Lib.hid cx
            have CR := Lib.hid cr
            clear cx cr hs6 hr6 hw6
            refine wp_region_quiet_fr Nil (by kernel_rfl) (by kernel_rfl) ?_
            repeat (first
              | ((with_reducible refine wpQuiet_loadQ (dst := some 121) (r := zQ) ?_ ?_ CX.out ?_); rfl; rfl; simp only [Act.put, List.getElem_toArray, List.getElem_cons_zero, List.getElem_cons_succ, List.setIfInBounds_toArray, List.set_cons_zero, List.set_cons_succ])
              | ((with_reducible refine wpQuiet_neS (dst := some 123) (q := zQ) ?_ ?_ ?_ ?_); rfl; rfl; rfl; simp only [Act.put, List.getElem_toArray, List.getElem_cons_zero, List.getElem_cons_succ, List.setIfInBounds_toArray, List.set_cons_zero, List.set_cons_succ])
              | go_big_quiet_step (first
                | (go_at_call 13; with_reducible exact quiet_call (KN.out _ _ _ HNX.out))))
            refine wpQuiet_nil ?_
            intro _ hw'
            obtain ⟨⟨wq, hfq⟩, hw''⟩ := hw'
            subst hw''
            have HS8 := Lib.hid (HS7.out.fr hfq id)
            have HR8 := Lib.hid (HR7.out.fr hfq id)
            have HF8 := Lib.hid (HF7.out.trans hfq)
            clear hfq c0 CX CR
            go_wp2_with fail
            go_round
            case rel => exact ⟨k + 1, 0, r', t', by go_num, by omega, by omega, HS8.out, HR8.out, HId.out, HF8.out⟩
            case measure => simp [intOf]; omega
        · skip
          by_cases hpp : p = 4
          · subst hpp
            go_wp2_with fail
            refine (KQ.out _ _ HSe.out).mono ?_
            rintro e w6 ⟨rfl, hf6⟩
            have HX6 := Lib.hid (Bk.new w6 40 #[.int .i64 0, .int .i64 0, .int .i64 0, .int .i64 0, .int .i64 0, .int .i64 0, .int .i64 0, .int .i64 0, .int .i64 0, .int .i64 0, .int .i64 0, .int .i64 0, .int .i64 0, .int .i64 0, .int .i64 0, .int .i64 0, .int .i64 0, .int .i64 0])
            have HS6 := Lib.hid ((HSe.out.fr hf6 id).alloc (.cells #[.int .i64 0, .int .i64 0, .int .i64 0, .int .i64 0, .int .i64 0, .int .i64 0, .int .i64 0, .int .i64 0, .int .i64 0, .int .i64 0, .int .i64 0, .int .i64 0, .int .i64 0, .int .i64 0, .int .i64 0, .int .i64 0, .int .i64 0, .int .i64 0] 40))
            have HR6 := Lib.hid ((HRe.out.fr hf6 id).alloc (.cells #[.int .i64 0, .int .i64 0, .int .i64 0, .int .i64 0, .int .i64 0, .int .i64 0, .int .i64 0, .int .i64 0, .int .i64 0, .int .i64 0, .int .i64 0, .int .i64 0, .int .i64 0, .int .i64 0, .int .i64 0, .int .i64 0, .int .i64 0, .int .i64 0] 40))
            have HF6 := Lib.hid ((HFe.out.trans hf6).alloc (.cells #[.int .i64 0, .int .i64 0, .int .i64 0, .int .i64 0, .int .i64 0, .int .i64 0, .int .i64 0, .int .i64 0, .int .i64 0, .int .i64 0, .int .i64 0, .int .i64 0, .int .i64 0, .int .i64 0, .int .i64 0, .int .i64 0, .int .i64 0, .int .i64 0] 40))
            have hs6 := (HSe.out.fr hf6 id).lt
            have hr6 := (HRe.out.fr hf6 id).lt
            have hw6 : w.heap.size ≤ w6.heap.size := (HFe.out.trans hf6).size
            clear hf6
            go_upto_region 14 with (first
              | (with_reducible refine wpList_storeQ (x := .tmp 10) (y := .tmp 90) (q := zQ) ?_ ?_ HX6.out ?_ ?_); rfl; rfl; rfl; intro w7 hb7 hf7; have HX7 := Lib.hid hb7; have HS7 := Lib.hid (HS6.out.fr hf7 (by omega)); have HR7 := Lib.hid (HR6.out.fr hf7 (by omega)); have HF7 := Lib.hid (HF6.out.then hf7 (fun j hj hlt => by omega)); clear hb7 hf7)
            have c0 := fun (u : FrW Nil w7) => (HR7.out.fr u.fr id).cell 0
            simp [rc] at c0
            have cx : ∀ W, (∃ u : FrW Nil w7, W = u.val) → Bk W w6.heap.size 40 (qc zQ) := fun W ⟨u, hu⟩ => by rw [hu]; exact HX7.out.fr u.fr id
            have cr : ∀ W, (∃ u : FrW Nil w7, W = u.val) → Rs W x 4 r' t' b := fun W ⟨u, hu⟩ => by rw [hu]; exact HR7.out.fr u.fr id
            have CX := Lib.hid cx
            have CR := Lib.hid cr
            clear cx cr hs6 hr6 hw6
            refine wp_region_quiet_fr Nil (by kernel_rfl) (by kernel_rfl) ?_
            repeat (first
              | ((with_reducible refine wpQuiet_loadQ (dst := some 121) (r := zQ) ?_ ?_ CX.out ?_); rfl; rfl; simp only [Act.put, List.getElem_toArray, List.getElem_cons_zero, List.getElem_cons_succ, List.setIfInBounds_toArray, List.set_cons_zero, List.set_cons_succ])
              | ((with_reducible refine wpQuiet_neS (dst := some 123) (q := zQ) ?_ ?_ ?_ ?_); rfl; rfl; rfl; simp only [Act.put, List.getElem_toArray, List.getElem_cons_zero, List.getElem_cons_succ, List.setIfInBounds_toArray, List.set_cons_zero, List.set_cons_succ])
              | go_big_quiet_step (fail))
            refine wpQuiet_nil ?_
            intro _ hw'
            obtain ⟨⟨wq, hfq⟩, hw''⟩ := hw'
            subst hw''
            have HS8 := Lib.hid (HS7.out.fr hfq id)
            have HR8 := Lib.hid (HR7.out.fr hfq id)
            have HF8 := Lib.hid (HF7.out.trans hfq)
            clear hfq c0 CX CR
            go_wp2_with fail
            go_round
            case rel => exact ⟨k + 1, 4, r', t', by go_num, by omega, by omega, HS8.out, HR8.out, HId.out, HF8.out⟩
            case measure => simp [intOf]; omega
          · have HNX := Lib.hid (HNd.out.resolve_left (fun e => hpp e.symm))
            have npp : ((4 : Int) != p) = true := by simpa using (fun e => hpp e.symm)
            clear hpp
            go_wp2_with fail
            refine (KQ.out _ _ HSe.out).mono ?_
            rintro e w6 ⟨rfl, hf6⟩
            have HX6 := Lib.hid (Bk.new w6 40 #[.int .i64 0, .int .i64 0, .int .i64 0, .int .i64 0, .int .i64 0, .int .i64 0, .int .i64 0, .int .i64 0, .int .i64 0, .int .i64 0, .int .i64 0, .int .i64 0, .int .i64 0, .int .i64 0, .int .i64 0, .int .i64 0, .int .i64 0, .int .i64 0])
            have HS6 := Lib.hid ((HSe.out.fr hf6 id).alloc (.cells #[.int .i64 0, .int .i64 0, .int .i64 0, .int .i64 0, .int .i64 0, .int .i64 0, .int .i64 0, .int .i64 0, .int .i64 0, .int .i64 0, .int .i64 0, .int .i64 0, .int .i64 0, .int .i64 0, .int .i64 0, .int .i64 0, .int .i64 0, .int .i64 0] 40))
            have HR6 := Lib.hid ((HRe.out.fr hf6 id).alloc (.cells #[.int .i64 0, .int .i64 0, .int .i64 0, .int .i64 0, .int .i64 0, .int .i64 0, .int .i64 0, .int .i64 0, .int .i64 0, .int .i64 0, .int .i64 0, .int .i64 0, .int .i64 0, .int .i64 0, .int .i64 0, .int .i64 0, .int .i64 0, .int .i64 0] 40))
            have HF6 := Lib.hid ((HFe.out.trans hf6).alloc (.cells #[.int .i64 0, .int .i64 0, .int .i64 0, .int .i64 0, .int .i64 0, .int .i64 0, .int .i64 0, .int .i64 0, .int .i64 0, .int .i64 0, .int .i64 0, .int .i64 0, .int .i64 0, .int .i64 0, .int .i64 0, .int .i64 0, .int .i64 0, .int .i64 0] 40))
            have hs6 := (HSe.out.fr hf6 id).lt
            have hr6 := (HRe.out.fr hf6 id).lt
            have hw6 : w.heap.size ≤ w6.heap.size := (HFe.out.trans hf6).size
            clear hf6
            go_upto_region 14 with (first
              | (with_reducible refine wpList_storeQ (x := .tmp 10) (y := .tmp 90) (q := zQ) ?_ ?_ HX6.out ?_ ?_); rfl; rfl; rfl; intro w7 hb7 hf7; have HX7 := Lib.hid hb7; have HS7 := Lib.hid (HS6.out.fr hf7 (by omega)); have HR7 := Lib.hid (HR6.out.fr hf7 (by omega)); have HF7 := Lib.hid (HF6.out.then hf7 (fun j hj hlt => by omega)); clear hb7 hf7)
            have c0 := fun (u : FrW Nil w7) => (HR7.out.fr u.fr id).cell 0
            simp [rc] at c0
            have cx : ∀ W, (∃ u : FrW Nil w7, W = u.val) → Bk W w6.heap.size 40 (qc zQ) := fun W ⟨u, hu⟩ => by rw [hu]; exact HX7.out.fr u.fr id
            have cr : ∀ W, (∃ u : FrW Nil w7, W = u.val) → Rs W x 4 r' t' b := fun W ⟨u, hu⟩ => by rw [hu]; exact HR7.out.fr u.fr id
            have CX := Lib.hid cx
            have CR := Lib.hid cr
            clear cx cr hs6 hr6 hw6
            refine wp_region_quiet_fr Nil (by kernel_rfl) (by kernel_rfl) ?_
            repeat (first
              | ((with_reducible refine wpQuiet_loadQ (dst := some 121) (r := zQ) ?_ ?_ CX.out ?_); rfl; rfl; simp only [Act.put, List.getElem_toArray, List.getElem_cons_zero, List.getElem_cons_succ, List.setIfInBounds_toArray, List.set_cons_zero, List.set_cons_succ])
              | ((with_reducible refine wpQuiet_neS (dst := some 123) (q := zQ) ?_ ?_ ?_ ?_); rfl; rfl; rfl; simp only [Act.put, List.getElem_toArray, List.getElem_cons_zero, List.getElem_cons_succ, List.setIfInBounds_toArray, List.set_cons_zero, List.set_cons_succ])
              | go_big_quiet_step (first
                | (go_at_call 13; with_reducible exact quiet_call (KN.out _ _ _ HNX.out))))
            refine wpQuiet_nil ?_
            intro _ hw'
            obtain ⟨⟨wq, hfq⟩, hw''⟩ := hw'
            subst hw''
            have HS8 := Lib.hid (HS7.out.fr hfq id)
            have HR8 := Lib.hid (HR7.out.fr hfq id)
            have HF8 := Lib.hid (HF7.out.trans hfq)
            clear hfq c0 CX CR
            go_wp2_with fail
            go_round
            case rel => exact ⟨k + 1, 4, r', t', by go_num, by omega, by omega, HS8.out, HR8.out, HId.out, HF8.out⟩
            case measure => simp [intOf]; omega
      · obtain rfl : k = 60 := by omega
        go_wp2_with fail
        refine (KL.out _).mono ?_
        rintro e w2 ⟨rfl, hf2⟩
        have HF2 := Lib.hid (HF.out.trans hf2)
        clear hf2
        go_wp2_with fail
        go_ret
        exact ⟨rfl, HF2.out⟩
    · obtain rfl : k = n := by omega
      go_wp2_with fail
      refine (KL.out _).mono ?_
      rintro e w2 ⟨rfl, hf2⟩
      have HF2 := Lib.hid (HF.out.trans hf2)
      clear hf2
      go_wp2_with fail
      go_ret
      exact ⟨rfl, HF2.out⟩
theorem plays_any (b : Int) {v : Value} {l : List (Int × Rq)} (hc : Come EA w v l) (hm : l.length ≤ maxLen) : Calls Try.prog 5 #[.int .i64 b, v] w fun e w' => e = .returned (.bool true) ∧ Fr Nil w w' := by
  by_cases hb : b < 0 ∨ 1000 < b
  · exact plays_out w b v hb
  · obtain ⟨A, c, rfl⟩ := hc.shape
    exact plays_in w b (by omega) (by omega) rfl hm hc
end
end Go.Proofs.Yteceghhjpejdnaa.SessP
