/- Chapter 6: the walk of the law PoolApart. -/
import Derived.Test.YtemofdbepalnkaaPoolE
namespace Go.Proofs.Ytemofdbepalnkaa.PoolF
open Go.RowKit Base Slices Quiet TrapA TrapB TrapG TrapV PoolA PoolB PoolC PoolD PoolE
set_option linter.unusedVariables false
set_option linter.unusedSimpArgs false

/-- an act: its kind, a number, a value -/
abbrev Ac := Int × Int × Int
def EA : El Ac := { ty := 29, sl := 22, size := 3, bytes := 24, cells := fun p => [.int .i64 p.1, .int .i64 p.2.1, .int .i64 p.2.2] }
theorem info_act : (Try.prog.info? 29).map (fun i => (i.zero, i.size, i.bytes)) = some (some (.agg #[.int .i64 0, .int .i64 0, .int .i64 0]), 3, 24) := by kernel_rfl
theorem EA_ok : EA.Ok Try.prog := by
  obtain ⟨i0, hi, hz0, hz1, hz2⟩ := info_parts info_act
  refine ⟨Try.underlying22, ⟨i0, _, hi, hz0, hz1, hz2, rfl⟩, by decide, by decide, fun _ => rfl, fun a u hu => ?_⟩
  simp [EA] at hu
  rcases hu with rfl | rfl | rfl <;> rfl
theorem act_cells : Try.prog.cellsOf 29 = 3 := by kernel_rfl
def decA (vs : List Value) : Ac := match vs with | [.int _ a, .int _ b, .int _ c] => (a, b, c) | _ => (0, 0, 0)
theorem open_acts {H : Type} {enc : TypeId × Value → H} {w : World} {base : Nat} {v : Value} {d : DataW H} {p : List MemPlace} (hv : Value.okWide Try.prog w .any base 22 v) (h : DataW.Trod enc Try.prog w 0 (fun _ => true) true 22 v d p) :
    ∃ l : List Ac, Come EA w v l ∧ l.length ≤ maxLen := by
  obtain ⟨l, h1, h2, h3⟩ := open_come (ks := [.i .i64, .i .i64, .i .i64]) EA_ok 9 (by kernel_rfl) act_cells decA (fun vs hvs => by
    obtain ⟨_, v1, rfl, ⟨a, rfl, _, _⟩, h1⟩ := Leaf.Leafs.cons hvs
    obtain ⟨_, v2, rfl, ⟨b, rfl, _, _⟩, h2⟩ := Leaf.Leafs.cons h1
    obtain ⟨_, v3, rfl, ⟨c, rfl, _, _⟩, h3⟩ := Leaf.Leafs.cons h2
    obtain rfl : v3 = [] := h3
    rfl) hv h
  exact ⟨l, h1, h2⟩

/-- an array of 40 bools -/
def Arr (w : World) (B : Nat) (f : Nat → Bool) : Prop := ∃ cs, Bk w B 27 cs ∧ cs.size = 40 ∧ ∀ j, j < 40 → cs[j]? = some (.bool (f j))
theorem Arr.fr {w w' : World} {B : Nat} {f : Nat → Bool} {S : Nat → Prop} (h : Arr w B f) (hf : Fr S w w') (hs : ¬ S B) : Arr w' B f := by
  obtain ⟨cs, h1, h2⟩ := h
  exact ⟨cs, h1.fr hf hs, h2⟩
theorem Arr.lt {w : World} {B : Nat} {f : Nat → Bool} (h : Arr w B f) : B < w.heap.size := by
  obtain ⟨cs, h1, _⟩ := h
  exact h1.lt
theorem Arr.at {w : World} {B : Nat} {f : Nat → Bool} (h : Arr w B f) {j : Nat} (hj : j < 40) : w.cell? ⟨B, j, none⟩ = some (.bool (f j)) ∧ w.frozen? ⟨B, j, none⟩ = false := by
  obtain ⟨cs, h1, h2, h3⟩ := h
  exact ⟨(h1.cell j).trans (h3 j hj), h1.frozen j⟩
theorem Arr.put {w : World} {B : Nat} {f f' : Nat → Bool} (h : Arr w B f) {j : Nat} (b : Bool) (hf : ∀ i, f' i = if i = j then b else f i) : Arr (w.setCell ⟨B, j, none⟩ (.bool b)) B f' := by
  obtain ⟨cs, h1, h2, h3⟩ := h
  refine ⟨_, h1.put j _, by simpa using h2, fun i hi => ?_⟩
  rw [hf i, Array.getElem?_setIfInBounds]
  by_cases e : j = i
  · subst e
    rw [if_pos rfl, if_pos rfl, if_pos (by omega)]
  · rw [if_neg e, if_neg (fun h => e h.symm)]
    exact h3 i hi

/-- what is true at each round -/
def ApartRel (w : World) (g B N : Nat) (i : Value) (wr : World) : Prop :=
  ∃ (k : Nat) (v : Value) (l : List Slot) (gs : List Nat) (n : Int), i = .int .i64 (k : Int) ∧ k ≤ 80 ∧ Pl wr g v l (enc gs) n N ∧ Chain l gs ∧ l.length ≤ N ∧ -(k : Int) ≤ n ∧ n ≤ k ∧ Arr wr B (tk l) ∧ Fr Nil w wr ∧ (∀ j, Foot g v j → w.heap.size ≤ j) ∧ w.heap.size ≤ B ∧ ¬ Foot g v B

theorem arr_new (w : World) {cs : Array Value} (h : cs = Array.replicate 40 (.bool false)) : Arr (w.alloc (.cells cs 27)) w.heap.size (tk []) := by
  subst h
  refine ⟨_, Bk.new w _ _, by simp, fun j hj => ?_⟩
  rw [Array.getElem?_replicate, if_pos hj]
  cases j <;> simp [tk]
theorem add_mk (g o n : Nat) : (⟨g, o, none⟩ : Addr).add n = ⟨g, o + n, none⟩ := by unfold Addr.add; split <;> simp_all
theorem spot_none {w : World} {a : Addr} {u : Value} (h : w.cell? (a.add 0) = some u) : ∃ g o, a = ⟨g, o, none⟩ := by
  have h' : w.cell? a = some u := h
  rcases a with ⟨g, o, _ | t⟩
  · exact ⟨g, o, rfl⟩
  · unfold World.cell? at h'
    split at h' <;> simp at h'
/-- an act's cells -/
theorem act_at {w : World} {A : Option Addr} {c : Nat} {l : List Ac} (h : Come EA w (.slice A l.length c) l) {k : Nat} {p : Ac} (hp : l[k]? = some p) : ∃ g o, A = some ⟨g, o, none⟩ ∧ l.length ≤ c ∧ w.cell? ⟨g, o + k * 3, none⟩ = some (.int .i64 p.1) ∧ w.cell? ⟨g, o + k * 3 + 1, none⟩ = some (.int .i64 p.2.1) := by
  rcases h with ⟨_, rfl⟩ | ⟨a, cap, he, hc, hr⟩
  · simp at hp
  · simp only [Value.slice.injEq, true_and] at he
    obtain ⟨rfl, rfl⟩ := he
    have hlt := (List.getElem?_eq_some_iff.1 hp).1
    obtain ⟨q, hq⟩ : ∃ q, l[0]? = some q := ⟨l[0]'(by omega), List.getElem?_eq_getElem _⟩
    have h0 := hr _ _ (flat_at EA_ok l 0 q hq 0 (.int .i64 q.1) rfl)
    obtain ⟨g, o, rfl⟩ := spot_none (by simpa using h0)
    have h1 := hr _ _ (flat_at EA_ok l k p hp 0 (.int .i64 p.1) rfl)
    have h2 := hr _ _ (flat_at EA_ok l k p hp 1 (.int .i64 p.2.1) rfl)
    rw [add_mk] at h1 h2
    exact ⟨g, o, rfl, hc, h1, by rw [Nat.add_assoc]; exact h2⟩

theorem foot_next {w wr w3 : World} {g B : Nat} {v v' : Value} (hm : Moved wr v v') (hf : Fr Nil w wr) (hb : ∀ j, Foot g v j → w.heap.size ≤ j) (hBf : ¬ Foot g v B) (hBl : B < wr.heap.size) : (∀ j, Foot g v' j → w.heap.size ≤ j) ∧ ¬ Foot g v' B := by
  constructor
  · rintro j (rfl | hj)
    · exact hb j (Or.inl rfl)
    · rcases hm j hj with e | e
      · exact hb j (Or.inr e)
      · exact Nat.le_trans hf.size e
  · rintro (rfl | hj)
    · exact hBf (Or.inl rfl)
    · rcases hm B hj with e | e
      · exact hBf (Or.inr e)
      · omega

theorem rel_next {w wr w3 : World} {g B N k : Nat} {v : Value} {l l' : List Slot} {gs' : List Nat} {n' : Int} (hf : Fr Nil w wr) (hb : ∀ j, Foot g v j → w.heap.size ≤ j) (hB : w.heap.size ≤ B) (hBf : ¬ Foot g v B) (harr : Arr wr B (tk l)) (hf3 : Fr (Foot g v) wr w3)
    (hh : Held wr g v l' (enc gs') n' N w3) (hch : Chain l' gs') (hln : l'.length ≤ N) (h1 : -((k : Int) + 1) ≤ n') (h2 : n' ≤ (k : Int) + 1) (j : Nat) (b : Bool) (htk : ∀ i, tk l' i = if i = j then b else tk l i) (hk : k + 1 ≤ 80) {i : Value} (hi : i = .int .i64 ((k : Int) + 1)) : ApartRel w g B N i (w3.setCell ⟨B, j, none⟩ (.bool b)) := by
  obtain ⟨v', hp, hm⟩ := hh
  obtain ⟨q1, q2⟩ := foot_next (w3 := w3) hm hf hb hBf harr.lt
  have hfB : Fr (fun k => k = B) w3 (w3.setCell ⟨B, j, none⟩ (.bool b)) := Fr.setCell (p := ⟨B, j, none⟩) (Fr.refl (fun k => k = B) w3) (fun _ => rfl) _
  refine ⟨k + 1, v', l', gs', n', by rw [hi]; simp, hk, hp.fr hfB (fun x hx s => q2 (by rw [← s]; exact hx)), hch, hln, by omega, by omega, (harr.fr hf3 hBf).put b htk, ?_, q1, hB, q2⟩
  exact (hf.then hf3 (fun i hi hlt => absurd (hb i hi) (by omega))).setCell (fun hlt => absurd hlt (by show ¬ B < _; omega)) _
theorem rel_same {w wr w3 : World} {g B N k : Nat} {i : Value} (h : ApartRel w g B N (.int .i64 (k : Int)) wr) (hf : Fr Nil wr w3) (hk : k + 1 ≤ 80) (hi : i = .int .i64 ((k : Int) + 1)) : ApartRel w g B N i w3 := by
  obtain ⟨k', v, l, gs, n, e, _, hp, hch, hln, h1, h2, harr, hf0, hb, hB, hBf⟩ := h
  have : k' = k := by simp at e; omega
  subst this
  exact ⟨k' + 1, v, l, gs, n, by rw [hi]; simp, hk, hp.nil hf, hch, hln, by omega, by omega, harr.fr hf id, hf0.trans hf, hb, hB, hBf⟩

set_option maxRecDepth 100000 in
set_option maxHeartbeats 16000000 in
theorem apart_in (w : World) {acts : List Ac} {y : Value} (m : Nat) (hm : m ≤ 255) (ha : Come EA w y acts) (hal : acts.length ≤ maxLen) :
    Calls Try.prog 3 #[.int .u8 (m : Int), y] w fun e w' => e = .returned (.bool true) ∧ Fr Nil w w' := by
  obtain ⟨N, hN⟩ : ∃ N, 1 + m % 30 = N := ⟨_, rfl⟩
  have hN1 : 1 ≤ N ∧ N ≤ 30 := by omega
  have i0 : (0 : Int) ≤ m := by omega
  have i1 : (m : Int) ≤ 255 := by omega
  have hal' : (acts.length : Int) ≤ 9223372036854775807 := by unfold maxLen at hal; omega
  have HN := Lib.hid hN
  have HN1 := Lib.hid hN1
  have HA := Lib.hid ha
  have HNEW := Lib.hid (New_ok w N (by omega) (by omega))
  obtain ⟨A0, c0, rfl⟩ := ha.shape
  clear hN hN1 hal ha hm
  go_enter Try.func3, Try.ntmps3
  go_wp2_with fail
  rw [show (1 : Int) + (m : Int) % 30 = (N : Int) by have := HN.out; omega]
  have n1 : (1 : Int) ≤ N := by have := HN1.out; omega
  have n2 : (N : Int) ≤ 30 := by have := HN1.out; omega
  clear i0 i1
  refine HNEW.out.mono ?_
  rintro e w1 ⟨rfl, hf1, hs1⟩
  have HF1 := Lib.hid hf1
  have HS1 := Lib.hid hs1
  clear hf1 hs1
  go_wp2_with fail
  go_loopw [9] (fun i wr => ApartRel w w.heap.size w1.heap.size N i wr) (fun i _ => 80 - (intOf i).toNat)
  case atStart =>
    refine ⟨0, _, [], [], 0, rfl, by omega, HS1.out.nil ((Fr.refl Nil w1).alloc _), trivial, Nat.zero_le _, by omega, by omega, arr_new w1 rfl, HF1.out.alloc _, ?_, HF1.out.size, ?_⟩
    · rintro j (rfl | hj)
      · exact Nat.le_refl _
      · cases hj
    · rintro (hj | hj)
      · have := HS1.out.1.lt; omega
      · cases hj
  case round =>
    have hrel0 := hrel
    obtain ⟨k, v, l, gs, n, rfl, hk, hp, hch, hln, hn1, hn2, harr, hf, hb, hB, hBf⟩ := hrel
    by_cases hlt : k < acts.length ∧ k < 80
    · obtain ⟨hk1, hk2⟩ := hlt
      obtain ⟨⟨pk, pi, px⟩, hact⟩ : ∃ p, acts[k]? = some p := ⟨acts[k], List.getElem?_eq_getElem hk1⟩
      obtain ⟨ga, oa, hA0, hcap, q1, q2⟩ := act_at HA.out hact
      subst hA0
      dsimp only at q1 q2
      have r1 := (hf.cell (World.block_lt_of_cell? w _ q1) id).trans q1
      have r2 := (hf.cell (World.block_lt_of_cell? w _ q2) id).trans q2
      have Q2 := Lib.hid q2
      have k1 : (k : Int) < acts.length := by omega
      have k2 : (k : Int) < 80 := by omega
      have hl30 : l.length ≤ 30 := by have := HN1.out; omega
      have HR := Lib.hid hrel0
      have HP := Lib.hid hp
      have HCH := Lib.hid hch
      have HLN := Lib.hid hln
      have HNB := Lib.hid (And.intro hn1 hn2)
      have HARR := Lib.hid harr
      have HF := Lib.hid hf
      have HB := Lib.hid hb
      have HBB := Lib.hid (And.intro hB hBf)
      have HL30 := Lib.hid hl30
      clear hrel0 hp hch hln hn1 hn2 harr hf hb hB hBf q1 q2 hact hcap hl30
      by_cases c1 : pk = 1
      · subst c1
        by_cases hval : ∃ (j : Nat) (q : Slot), pi = (j : Int) + 1 ∧ l[j]? = some q ∧ q.2.2 = true
        · obtain ⟨j, q, rfl, hq, hqt⟩ := hval
          have hjl := (List.getElem?_eq_some_iff.1 hq).1
          have htj : tk l (j + 1) = true := by simp [tk, hq, hqt]
          have j1 : (0 : Int) ≤ j := by omega
          have j2 : (j : Int) + 1 ≤ N := by have := HLN.out; omega
          have j3 : (j : Int) + 1 < 40 := by have := HL30.out; omega
          have HJ := Lib.hid (show j + 1 < 40 by have := HL30.out; omega)
          have HQ := Lib.hid hq
          have HQT := Lib.hid hqt
          have HTJ := Lib.hid htj
          clear hq hqt htj
          go_wp2_with fail
          refine (Give_ok wr HP.out HQ.out HQT.out (by have := HL30.out; omega) (by have := HNB.out; omega)).mono ?_
          rintro e w3 ⟨rfl, hf3, hh3⟩
          obtain ⟨t1, t2⟩ := ((HARR.out.fr hf3 HBB.out.2).at HJ.out)
          rw [HTJ.out] at t1
          have s2 := ((HF.out.then hf3 (fun i hi hlt => absurd (HB.out i hi) (by omega))).cell (World.block_lt_of_cell? w _ Q2.out) id).trans Q2.out
          have HF3 := Lib.hid hf3
          have HH3 := Lib.hid hh3
          clear hf3 hh3 r1 r2
          go_wp2_with fail
          go_roundw
          case rel =>
            exact rel_next (gs' := j :: gs) HF.out HB.out HBB.out.1 HBB.out.2 HARR.out HF3.out HH3.out ⟨⟨_, by rw [List.getElem?_set_self hjl], rfl, rfl⟩, HCH.out.out HQ.out HQT.out, HCH.out.set (HCH.out.out HQ.out HQT.out)⟩ (by rw [List.length_set]; exact HLN.out) (by have := HNB.out; omega) (by have := HNB.out; omega) (j + 1) false (fun i => tk_set hjl _ i) (by omega) rfl
          case measure => simp [intOf]; omega
        · have hbad : ∀ (j : Nat) (q : Slot), pi = (j : Int) + 1 → l[j]? = some q → q.2.2 = false := fun j q h1 h2 => by
            rcases hb2 : q.2.2 with _ | _
            · rfl
            · exact absurd ⟨j, q, h1, h2, hb2⟩ hval
          have HBAD := Lib.hid hbad
          clear hval hbad
          go_wp2_with fail
          refine (Give_bad wr HP.out HBAD.out (by have := HL30.out; omega)).mono ?_
          rintro e w3 ⟨rfl, hf3⟩
          have HF3 := Lib.hid hf3
          clear hf3 r1 r2
          go_wp2_with fail
          go_roundw
          case rel => exact rel_same HR.out HF3.out (by omega) rfl
          case measure => simp [intOf]; omega
      · have b1 : (pk == 1) = false := by simpa using c1
        rcases gs with _ | ⟨j, gs⟩
        · by_cases hroom : l.length < N
          · have j2 : (l.length : Int) + 1 ≤ N := by omega
            have j3 : (l.length : Int) + 1 < 40 := by have := HL30.out; omega
            have HJ := Lib.hid (show l.length + 1 < 40 by have := HL30.out; omega)
            have HTJ := Lib.hid (show tk l (l.length + 1) = false by simp [tk])
            have HROOM := Lib.hid hroom
            clear hroom
            go_wp2_with fail
            refine (Take_new wr (x := k) HP.out HROOM.out (by have := HN1.out; omega) (by have := HNB.out; omega)).mono ?_
            rintro e w3 ⟨rfl, hf3, hh3⟩
            obtain ⟨t1, t2⟩ := ((HARR.out.fr hf3 HBB.out.2).at HJ.out)
            rw [HTJ.out] at t1
            have HF3 := Lib.hid hf3
            have HH3 := Lib.hid hh3
            clear hf3 hh3 r1 r2
            go_wp2_with fail
            go_roundw
            case rel =>
              exact rel_next (gs' := []) HF.out HB.out HBB.out.1 HBB.out.2 HARR.out HF3.out HH3.out trivial (by rw [List.length_append, List.length_singleton]; exact HROOM.out) (by have := HNB.out; omega) (by have := HNB.out; omega) (l.length + 1) true (fun i => tk_snoc l _ i) (by omega) rfl
            case measure => simp [intOf]; omega
          · have HFULL := Lib.hid (show N ≤ l.length by omega)
            clear hroom
            go_wp2_with fail
            refine (Take_full wr (x := k) HP.out HFULL.out (by have := HL30.out; omega)).mono ?_
            rintro e w3 ⟨rfl, hf3⟩
            have HF3 := Lib.hid hf3
            clear hf3 r1 r2
            go_wp2_with fail
            go_roundw
            case rel => exact rel_same HR.out HF3.out (by omega) rfl
            case measure => simp [intOf]; omega
        · obtain ⟨⟨q, hq, hqt, hqn⟩, hnj, hch'⟩ := HCH.out
          have hjl := (List.getElem?_eq_some_iff.1 hq).1
          have htj : tk l (j + 1) = false := by simp [tk, hq, hqt]
          have j1 : (0 : Int) ≤ j := by omega
          have j2 : (j : Int) + 1 ≤ N := by have := HLN.out; omega
          have j3 : (j : Int) + 1 < 40 := by have := HL30.out; omega
          have HJ := Lib.hid (show j + 1 < 40 by have := HL30.out; omega)
          have HQ := Lib.hid hq
          have HQN := Lib.hid hqn
          have HTJ := Lib.hid htj
          have HCH' := Lib.hid (And.intro hnj hch')
          clear hq hqt hqn htj hnj hch'
          go_wp2_with fail
          refine (Take_reuse wr (x := k) HP.out HQ.out (by have := HL30.out; omega) (by have := HNB.out; omega)).mono ?_
          rintro e w3 ⟨rfl, hf3, hh3⟩
          rw [HQN.out] at hh3
          obtain ⟨t1, t2⟩ := ((HARR.out.fr hf3 HBB.out.2).at HJ.out)
          rw [HTJ.out] at t1
          have HF3 := Lib.hid hf3
          have HH3 := Lib.hid hh3
          clear hf3 hh3 r1 r2
          go_wp2_with fail
          go_roundw
          case rel =>
            exact rel_next (gs' := gs) HF.out HB.out HBB.out.1 HBB.out.2 HARR.out HF3.out HH3.out (HCH'.out.2.set HCH'.out.1) (by rw [List.length_set]; exact HLN.out) (by have := HNB.out; omega) (by have := HNB.out; omega) (j + 1) true (fun i => tk_set hjl _ i) (by omega) rfl
          case measure => simp [intOf]; omega
    · have HF := Lib.hid hf
      clear hrel0 hp hch hln hn1 hn2 harr hf hb hB hBf
      by_cases hk1 : k < acts.length
      · have j1 : (k : Int) < acts.length := by omega
        have j2 : (80 : Int) ≤ k := by omega
        go_wp2_with fail
        refine (lives_any wr).mono ?_
        rintro e w9 ⟨rfl, hf9⟩
        have HF9 := Lib.hid hf9
        clear hf9
        go_wp2_with fail
        exact bodyPost_ret (v := .bool true) (by simp [results, Try.results3, go_sem]) rfl ⟨rfl, HF.out.trans HF9.out⟩
      · have j1 : (acts.length : Int) ≤ k := by omega
        go_wp2_with fail
        refine (lives_any wr).mono ?_
        rintro e w9 ⟨rfl, hf9⟩
        have HF9 := Lib.hid hf9
        clear hf9
        go_wp2_with fail
        exact bodyPost_ret (v := .bool true) (by simp [results, Try.results3, go_sem]) rfl ⟨rfl, HF.out.trans HF9.out⟩

theorem apart_any (w : World) {acts : List Ac} {y : Value} (m : Int) (hm : 0 ≤ m ∧ m ≤ 255) (ha : Come EA w y acts) (hal : acts.length ≤ maxLen) :
    Calls Try.prog 3 #[.int .u8 m, y] w fun e w' => e = .returned (.bool true) ∧ Fr Nil w w' := by
  obtain ⟨n, rfl⟩ := Int.eq_ofNat_of_zero_le hm.1
  exact apart_in w n (by omega) ha hal
theorem u8_bd {n : Int} (h : (Lit.int .u8 n).wf = true) : 0 ≤ n ∧ n ≤ 255 := by
  have e : IntKind.u8.min = 0 ∧ IntKind.u8.max = 255 := by decide
  simp only [Lit.wf, e.1, e.2, Bool.and_eq_true, decide_eq_true_eq] at h
  exact h
end Go.Proofs.Ytemofdbepalnkaa.PoolF
