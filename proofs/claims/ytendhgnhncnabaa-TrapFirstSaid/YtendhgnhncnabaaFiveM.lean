/- Chapter 5: the walk of the law TrapFirst. -/
import Derived.Test.YtendhgnhncnabaaFiveL
import Derived.Test.YtendhgnhncnabaaFiveG
import Derived.Deep.QuietTactic
import Derived.BigQuiet
import Derived.Deep.RegionHeld3
import Derived.Deep.DeepCutAuto
namespace Go.Proofs.Ytendhgnhncnabaa.FiveM
open Go.RowKit TrapA TrapB Base FiveA FiveB FiveC FiveD FiveE FiveF FiveL
set_option linter.unusedVariables false
set_option linter.unusedSimpArgs false

theorem Slc.fr {w w' : World} {A : Option Addr} {l : List St} (h : Slc w A l) (hf : Fr Nil w w') : Slc w' A l := fun hne => by
  obtain ⟨a, ha, hlt, hl⟩ := h hne
  exact ⟨a, ha, Nat.lt_of_lt_of_le hlt hf.size, hl.fr hf hlt id⟩

theorem Doer.blt {w : World} {g cap : Nat} {a : Addr} {l : List St} {done code : Int} {x : Obj} (h : Doer (w.alloc x) g a cap l done code) (hg : g = w.heap.size) : a.block < w.heap.size := by
  have h1 := h.lt
  have h2 := h.ne
  simp at h1
  omega

theorem fault_agg (o : Option (Int × Int)) : ∃ x c, faultOf o = .agg #[.int .i64 x, .int .i64 c] := by
  rcases o with _ | ⟨x, c⟩
  · exact ⟨0, 0, rfl⟩
  · exact ⟨x, c, rfl⟩

/-- the three pointers of the law's list -/
def Ptrs (w : World) (b g0 g1 g2 : Nat) : Prop := Bk w b 23 #[.pointer (some ⟨g0, 0, none⟩), .pointer (some ⟨g1, 0, none⟩), .pointer (some ⟨g2, 0, none⟩)]

/-- what stands behind the call of First -/
def After (g0 g1 g2 : Nat) (a0 a1 a2 : Addr) (p0 p1 p2 : Nat) (l0 l1 l2 : List St) (w : World) (u v : Value) (w' : World) : Prop :=
  ∃ i c n0 n1 n2 : Int, u = .int .i64 i ∧ v = .int .i64 c ∧ FirstRes l0 l1 l2 i c n0 n1 n2 ∧ Fr (S3 g0 g1 g2) w w' ∧ Three g0 g1 g2 a0 a1 a2 p0 p1 p2 l0 l1 l2 w' n0 n1 n2

set_option maxRecDepth 100000 in
set_option maxHeartbeats 8000000 in
theorem first_pre (l0 l1 l2 : List St) (A0 A1 A2 : Option Addr) (c0 c1 c2 : Nat) (w : World) (hl0 : l0.length ≤ maxLen) (hl1 : l1.length ≤ maxLen) (hl2 : l2.length ≤ maxLen) (hw0 : Slc w A0 l0) (hw1 : Slc w A1 l1) (hw2 : Slc w A2 l2) :
    Calls Try.prog 7 #[.slice A0 l0.length c0, .slice A1 l1.length c1, .slice A2 l2.length c2] w fun e w' => e = .returned (.bool true) ∧ Fr Nil w w' := by
  have hmf := mf
  go_enter Try.func7, Try.ntmps7
  go_wp2_with fail
  refine (few_calls l0 A0 c0 _ hl0 hw0).mono ?_
  rintro e w1 ⟨v0, rfl, hf1, hown0, hnn0⟩
  obtain ⟨b0, q0, rfl, hb0, hd0⟩ := new_doer 0 hown0 hnn0
  have hlt0 := Doer.blt hd0 rfl
  have hs1 := hf1.size
  have hf1' := hf1.alloc (.cells #[.slice (some ⟨b0, 0, none⟩) (fewL l0).length q0, .int .i64 0, .int .i64 0] 27)
  have hx1 := Slc.fr hw1 hf1'
  go_wp2_with fail
  refine (few_calls l1 A1 c1 _ hl1 hx1).mono ?_
  rintro e w2 ⟨v1, rfl, hf2, hown1, hnn1⟩
  obtain ⟨b1, q1, rfl, hb1, hd1⟩ := new_doer 0 hown1 hnn1
  have hlt1 := Doer.blt hd1 rfl
  have hs2 := hf2.size
  simp only [World.size_alloc] at hb1 hs2
  have hf2' := (hf1'.trans hf2).alloc (.cells #[.slice (some ⟨b1, 0, none⟩) (fewL l1).length q1, .int .i64 0, .int .i64 0] 27)
  have hx2 := Slc.fr hw2 hf2'
  have hd0' := (hd0.fr hf2 id id).fr (S := Nil) ((Fr.refl Nil w2).alloc (.cells #[.slice (some ⟨b1, 0, none⟩) (fewL l1).length q1, .int .i64 0, .int .i64 0] 27)) id id
  go_wp2_with fail
  refine (few_calls l2 A2 c2 _ hl2 hx2).mono ?_
  rintro e w3 ⟨v2, rfl, hf3, hown2, hnn2⟩
  obtain ⟨b2, q2, rfl, hb2, hd2⟩ := new_doer 0 hown2 hnn2
  have hlt2 := Doer.blt hd2 rfl
  have hs3 := hf3.size
  simp only [World.size_alloc] at hb2 hs3
  have hf3' := (hf2'.trans hf3).alloc (.cells #[.slice (some ⟨b2, 0, none⟩) (fewL l2).length q2, .int .i64 0, .int .i64 0] 27)
  have hT : Three w1.heap.size w2.heap.size w3.heap.size ⟨b0, 0, none⟩ ⟨b1, 0, none⟩ ⟨b2, 0, none⟩ q0 q1 q2 (fewL l0) (fewL l1) (fewL l2) (w3.alloc (.cells #[.slice (some ⟨b2, 0, none⟩) (fewL l2).length q2, .int .i64 0, .int .i64 0] 27)) 0 0 0 :=
    ⟨(hd0'.fr hf3 id id).fr (S := Nil) ((Fr.refl Nil w3).alloc _) id id, (hd1.fr hf3 id id).fr (S := Nil) ((Fr.refl Nil w3).alloc _) id id, hd2, by simp only at hlt0 hlt1 hlt2; refine ⟨?_, ?_, ?_, ?_, ?_, ?_, ?_, ?_, ?_⟩ <;> (try dsimp only) <;> omega⟩
  have HT0 := Lib.hid hT
  have HF0 := Lib.hid hf3'
  clear hT hf3' hd0' hd0 hd1 hd2 hown0 hown1 hown2 hnn0 hnn1 hnn2 hx1 hx2 hf1 hf2 hf3 hf1' hf2' hw0 hw1 hw2
  generalize fewL l0 = L0 at HT0 HF0 ⊢
  generalize fewL l1 = L1 at HT0 HF0 ⊢
  generalize fewL l2 = L2 at HT0 HF0 ⊢
  have hP := Bk.new (w3.alloc (.cells #[.slice (some ⟨b2, 0, none⟩) L2.length q2, .int .i64 0, .int .i64 0] 27)) 23 #[.pointer (some ⟨w1.heap.size, 0, none⟩), .pointer (some ⟨w2.heap.size, 0, none⟩), .pointer (some ⟨w3.heap.size, 0, none⟩)]
  go_wp2_with fail
  refine (lives_any _).mono ?_
  rintro e w5 ⟨rfl, hf5⟩
  have hP5 := hP.fr (S := Nil) hf5 id
  rw [World.size_alloc] at hP5
  have HT5 := Lib.hid ((HT0.out.fr ((Fr.refl Nil _).alloc _)).fr hf5)
  have HF5 := Lib.hid ((HF0.out.alloc _).trans hf5)
  clear hP hf5 HT0 HF0 hb0 hb1 hb2 hlt0 hlt1 hlt2
  have hbg0 := hP5.apart HT5.out.h0.bk (by decide)
  have hbg1 := hP5.apart HT5.out.h1.bk (by decide)
  have hbg2 := hP5.apart HT5.out.h2.bk (by decide)
  generalize w3.heap.size + 1 = b at hP5 hbg0 hbg1 hbg2 ⊢
  have hg0 : w.heap.size ≤ w1.heap.size := hs1
  have hg1 : w.heap.size ≤ w2.heap.size := by omega
  have hg2 : w.heap.size ≤ w3.heap.size := by omega
  generalize w1.heap.size = g0 at hP5 hbg0 HT5 hg0 ⊢
  generalize w2.heap.size = g1 at hP5 hbg1 HT5 hg1 ⊢
  generalize w3.heap.size = g2 at hP5 hbg2 HT5 hg2 ⊢
  clear hs1 hs2 hs3
  obtain ⟨r0, r1, r2, _, _, _⟩ := hP5.c3
  have HP5 := Lib.hid hP5
  clear hP5
  have HC := Lib.hid (fun (W : World) (hb : Bk W w5.heap.size 42 #[fn g0, fn g1, fn g2]) (hT : Three g0 g1 g2 ⟨b0, 0, none⟩ ⟨b1, 0, none⟩ ⟨b2, 0, none⟩ q0 q1 q2 L0 L1 L2 W 0 0 0) => first_any w5.heap.size hb hT)
  go_upto_region 4 with fail
  go_cut [8, 9] (fun u8 u9 wc => After g0 g1 g2 ⟨b0, 0, none⟩ ⟨b1, 0, none⟩ ⟨b2, 0, none⟩ q0 q1 q2 L0 L1 L2 w5 u8 u9 wc)
  case first =>
    go_region_held3 (fun w' => w'.cell? ⟨b, 0, none⟩ = some (.pointer (some ⟨g0, 0, none⟩)) ∧ w'.cell? ⟨b, 1, none⟩ = some (.pointer (some ⟨g1, 0, none⟩)) ∧ w'.cell? ⟨b, 2, none⟩ = some (.pointer (some ⟨g2, 0, none⟩))) (first | (go_keep; done) | exact ⟨hB6.cell 0, hB6.cell 1, hB6.cell 2⟩)
      (first | (go_at_call 19; refine (HC.out _ ?_ ?_).mono ?_; exact (Bk.new w5 42 #[fn g0, fn g1, fn g2]).drew; exact HT5.out.fr (((Fr.refl Nil w5).alloc _).drew); rintro e w6 ⟨i, c, n0, n1, n2, rfl, hres, hf6, hT6⟩; have hB6 := ((HP5.out.alloc (.cells #[fn g0, fn g1, fn g2] 42)).drew).fr hf6 (by rintro (h | h | h) <;> omega)))
    all_goals (go_wp2_with fail; go_meet; exact ⟨i, c, n0, n1, n2, rfl, rfl, hres, (((Fr.refl _ w5).alloc _).drew).trans hf6, hT6⟩)
  case rest =>
    obtain ⟨i, c, n0, n1, n2, rfl, rfl, hres, hf6, hT6⟩ := hcut
    have HT0 := Lib.hid hT6
    have HF0 := Lib.hid (HF5.out.then hf6 fun j hj hlt => by rcases hj with hj | hj | hj <;> omega)
    have HP0 := Lib.hid (HP5.out.fr hf6 (by rintro (h | h | h) <;> omega))
    clear hf6 hT6 HT5 HF5 HP5 HC r0 r1 r2
    rcases hres with ⟨x, hs0, rfl, rfl, rfl, rfl⟩ | ⟨x, hs0, hs1, rfl, rfl, rfl, rfl⟩ | ⟨x, hs0, hs1, hs2, rfl, rfl, rfl, rfl⟩ | ⟨hs0, hs1, hs2, rfl, rfl, rfl, rfl, rfl⟩
    · go_wp2_with fail
      refine wp_loop_rounds 4 ?_
      have HA0 := fun W (hfr : Fr Nil wc W) => all_calls L0 (some ⟨b0, 0, none⟩) q0 W (FiveG.Doer.len HT0.out.h0) (FiveG.Doer.slc ((HT0.out.fr hfr).h0))
      rw [hs0] at HA0
      unfold faultOf at HA0
      have HH0 := Lib.hid HA0
      clear HA0
      obtain ⟨r00, r01, r02, _, _, _⟩ := HP0.out.c3
      obtain ⟨s00, s01, s02, _, _, _⟩ := HT0.out.h0.bk.c3
      have hl0a := HP0.out.lt
      have hl0b := HT0.out.h0.bk.lt
      rw [rounds_succ]
      go_wp2_with fail
      refine (HH0.out _ (by repeat first | exact Fr.refl _ _ | apply Fr.drewN | apply Fr.drew | apply Fr.alloc)).mono ?_
      rintro e x0 ⟨rfl, hfx0⟩
      have HT1 := Lib.hid (HT0.out.fr (Fr.trans (b := _) (by repeat first | exact Fr.refl _ _ | apply Fr.drewN | apply Fr.drew | apply Fr.alloc) hfx0))
      have HP1 := Lib.hid (HP0.out.fr (S := Nil) (Fr.trans (b := _) (by repeat first | exact Fr.refl _ _ | apply Fr.drewN | apply Fr.drew | apply Fr.alloc) hfx0) id)
      have HF1 := Lib.hid (HF0.out.trans (Fr.trans (b := _) (by repeat first | exact Fr.refl _ _ | apply Fr.drewN | apply Fr.drew | apply Fr.alloc) hfx0))
      clear HH0 hfx0 r00 r01 r02 s00 s01 s02 hl0a hl0b
      obtain ⟨r00, r01, r02, _, _, _⟩ := HP1.out.c3
      obtain ⟨s00, s01, s02, _, _, _⟩ := HT1.out.h0.bk.c3
      have hl0a := HP1.out.lt
      have hl0b := HT1.out.h0.bk.lt
      go_wp2_with fail
      go_quiet (fail)
      go_wp2_with fail
      all_goals
        have HA1 := fun W (hfr : Fr Nil x0 W) => all_calls L1 (some ⟨b1, 0, none⟩) q1 W (FiveG.Doer.len HT1.out.h1) (FiveG.Doer.slc ((HT1.out.fr hfr).h1))
        obtain ⟨fx1, fy1, hxy1⟩ := fault_agg (scan L1).1
        rw [hxy1] at HA1
        clear hxy1
        generalize (scan L1).1.isSome = bb1 at HA1
        have HH1 := Lib.hid HA1
        clear HA1
        obtain ⟨r10, r11, r12, _, _, _⟩ := HP1.out.c3
        obtain ⟨s10, s11, s12, _, _, _⟩ := HT1.out.h1.bk.c3
        have hl1a := HP1.out.lt
        have hl1b := HT1.out.h1.bk.lt
        rw [rounds_succ]
        go_wp2_with fail
        refine (HH1.out _ (by repeat first | exact Fr.refl _ _ | apply Fr.drewN | apply Fr.drew | apply Fr.alloc)).mono ?_
        rintro e x1 ⟨rfl, hfx1⟩
        have HT2 := Lib.hid (HT1.out.fr (Fr.trans (b := _) (by repeat first | exact Fr.refl _ _ | apply Fr.drewN | apply Fr.drew | apply Fr.alloc) hfx1))
        have HP2 := Lib.hid (HP1.out.fr (S := Nil) (Fr.trans (b := _) (by repeat first | exact Fr.refl _ _ | apply Fr.drewN | apply Fr.drew | apply Fr.alloc) hfx1) id)
        have HF2 := Lib.hid (HF1.out.trans (Fr.trans (b := _) (by repeat first | exact Fr.refl _ _ | apply Fr.drewN | apply Fr.drew | apply Fr.alloc) hfx1))
        clear HH1 hfx1 r10 r11 r12 s10 s11 s12 hl1a hl1b
        obtain ⟨r10, r11, r12, _, _, _⟩ := HP2.out.c3
        obtain ⟨s10, s11, s12, _, _, _⟩ := HT2.out.h1.bk.c3
        have hl1a := HP2.out.lt
        have hl1b := HT2.out.h1.bk.lt
        go_wp2_with fail
        all_goals
          have HA2 := fun W (hfr : Fr Nil x1 W) => all_calls L2 (some ⟨b2, 0, none⟩) q2 W (FiveG.Doer.len HT2.out.h2) (FiveG.Doer.slc ((HT2.out.fr hfr).h2))
          obtain ⟨fx2, fy2, hxy2⟩ := fault_agg (scan L2).1
          rw [hxy2] at HA2
          clear hxy2
          generalize (scan L2).1.isSome = bb2 at HA2
          have HH2 := Lib.hid HA2
          clear HA2
          obtain ⟨r20, r21, r22, _, _, _⟩ := HP2.out.c3
          obtain ⟨s20, s21, s22, _, _, _⟩ := HT2.out.h2.bk.c3
          have hl2a := HP2.out.lt
          have hl2b := HT2.out.h2.bk.lt
          rw [rounds_succ]
          go_wp2_with fail
          refine (HH2.out _ (by repeat first | exact Fr.refl _ _ | apply Fr.drewN | apply Fr.drew | apply Fr.alloc)).mono ?_
          rintro e x2 ⟨rfl, hfx2⟩
          have HT3 := Lib.hid (HT2.out.fr (Fr.trans (b := _) (by repeat first | exact Fr.refl _ _ | apply Fr.drewN | apply Fr.drew | apply Fr.alloc) hfx2))
          have HP3 := Lib.hid (HP2.out.fr (S := Nil) (Fr.trans (b := _) (by repeat first | exact Fr.refl _ _ | apply Fr.drewN | apply Fr.drew | apply Fr.alloc) hfx2) id)
          have HF3 := Lib.hid (HF2.out.trans (Fr.trans (b := _) (by repeat first | exact Fr.refl _ _ | apply Fr.drewN | apply Fr.drew | apply Fr.alloc) hfx2))
          clear HH2 hfx2 r20 r21 r22 s20 s21 s22 hl2a hl2b
          obtain ⟨r20, r21, r22, _, _, _⟩ := HP3.out.c3
          obtain ⟨s20, s21, s22, _, _, _⟩ := HT3.out.h2.bk.c3
          have hl2a := HP3.out.lt
          have hl2b := HT3.out.h2.bk.lt
          go_wp2_with fail
          all_goals
            rw [rounds_succ]
            go_wp2_with fail
            go_ret
            exact ⟨rfl, Fr.trans HF3.out (by repeat first | exact Fr.refl _ _ | apply Fr.drewN | apply Fr.drew | apply Fr.alloc)⟩
    · go_wp2_with fail
      refine wp_loop_rounds 4 ?_
      have HA0 := fun W (hfr : Fr Nil wc W) => all_calls L0 (some ⟨b0, 0, none⟩) q0 W (FiveG.Doer.len HT0.out.h0) (FiveG.Doer.slc ((HT0.out.fr hfr).h0))
      rw [hs0] at HA0
      unfold faultOf at HA0
      have HH0 := Lib.hid HA0
      clear HA0
      obtain ⟨r00, r01, r02, _, _, _⟩ := HP0.out.c3
      obtain ⟨s00, s01, s02, _, _, _⟩ := HT0.out.h0.bk.c3
      have hl0a := HP0.out.lt
      have hl0b := HT0.out.h0.bk.lt
      rw [rounds_succ]
      go_wp2_with fail
      refine (HH0.out _ (by repeat first | exact Fr.refl _ _ | apply Fr.drewN | apply Fr.drew | apply Fr.alloc)).mono ?_
      rintro e x0 ⟨rfl, hfx0⟩
      have HT1 := Lib.hid (HT0.out.fr (Fr.trans (b := _) (by repeat first | exact Fr.refl _ _ | apply Fr.drewN | apply Fr.drew | apply Fr.alloc) hfx0))
      have HP1 := Lib.hid (HP0.out.fr (S := Nil) (Fr.trans (b := _) (by repeat first | exact Fr.refl _ _ | apply Fr.drewN | apply Fr.drew | apply Fr.alloc) hfx0) id)
      have HF1 := Lib.hid (HF0.out.trans (Fr.trans (b := _) (by repeat first | exact Fr.refl _ _ | apply Fr.drewN | apply Fr.drew | apply Fr.alloc) hfx0))
      clear HH0 hfx0 r00 r01 r02 s00 s01 s02 hl0a hl0b
      obtain ⟨r00, r01, r02, _, _, _⟩ := HP1.out.c3
      obtain ⟨s00, s01, s02, _, _, _⟩ := HT1.out.h0.bk.c3
      have hl0a := HP1.out.lt
      have hl0b := HT1.out.h0.bk.lt
      go_wp2_with fail
      all_goals
        have HA1 := fun W (hfr : Fr Nil x0 W) => all_calls L1 (some ⟨b1, 0, none⟩) q1 W (FiveG.Doer.len HT1.out.h1) (FiveG.Doer.slc ((HT1.out.fr hfr).h1))
        rw [hs1] at HA1
        unfold faultOf at HA1
        have HH1 := Lib.hid HA1
        clear HA1
        obtain ⟨r10, r11, r12, _, _, _⟩ := HP1.out.c3
        obtain ⟨s10, s11, s12, _, _, _⟩ := HT1.out.h1.bk.c3
        have hl1a := HP1.out.lt
        have hl1b := HT1.out.h1.bk.lt
        rw [rounds_succ]
        go_wp2_with fail
        refine (HH1.out _ (by repeat first | exact Fr.refl _ _ | apply Fr.drewN | apply Fr.drew | apply Fr.alloc)).mono ?_
        rintro e x1 ⟨rfl, hfx1⟩
        have HT2 := Lib.hid (HT1.out.fr (Fr.trans (b := _) (by repeat first | exact Fr.refl _ _ | apply Fr.drewN | apply Fr.drew | apply Fr.alloc) hfx1))
        have HP2 := Lib.hid (HP1.out.fr (S := Nil) (Fr.trans (b := _) (by repeat first | exact Fr.refl _ _ | apply Fr.drewN | apply Fr.drew | apply Fr.alloc) hfx1) id)
        have HF2 := Lib.hid (HF1.out.trans (Fr.trans (b := _) (by repeat first | exact Fr.refl _ _ | apply Fr.drewN | apply Fr.drew | apply Fr.alloc) hfx1))
        clear HH1 hfx1 r10 r11 r12 s10 s11 s12 hl1a hl1b
        obtain ⟨r10, r11, r12, _, _, _⟩ := HP2.out.c3
        obtain ⟨s10, s11, s12, _, _, _⟩ := HT2.out.h1.bk.c3
        have hl1a := HP2.out.lt
        have hl1b := HT2.out.h1.bk.lt
        go_wp2_with fail
        go_quiet (fail)
        go_wp2_with fail
        all_goals
          have HA2 := fun W (hfr : Fr Nil x1 W) => all_calls L2 (some ⟨b2, 0, none⟩) q2 W (FiveG.Doer.len HT2.out.h2) (FiveG.Doer.slc ((HT2.out.fr hfr).h2))
          obtain ⟨fx2, fy2, hxy2⟩ := fault_agg (scan L2).1
          rw [hxy2] at HA2
          clear hxy2
          generalize (scan L2).1.isSome = bb2 at HA2
          have HH2 := Lib.hid HA2
          clear HA2
          obtain ⟨r20, r21, r22, _, _, _⟩ := HP2.out.c3
          obtain ⟨s20, s21, s22, _, _, _⟩ := HT2.out.h2.bk.c3
          have hl2a := HP2.out.lt
          have hl2b := HT2.out.h2.bk.lt
          rw [rounds_succ]
          go_wp2_with fail
          refine (HH2.out _ (by repeat first | exact Fr.refl _ _ | apply Fr.drewN | apply Fr.drew | apply Fr.alloc)).mono ?_
          rintro e x2 ⟨rfl, hfx2⟩
          have HT3 := Lib.hid (HT2.out.fr (Fr.trans (b := _) (by repeat first | exact Fr.refl _ _ | apply Fr.drewN | apply Fr.drew | apply Fr.alloc) hfx2))
          have HP3 := Lib.hid (HP2.out.fr (S := Nil) (Fr.trans (b := _) (by repeat first | exact Fr.refl _ _ | apply Fr.drewN | apply Fr.drew | apply Fr.alloc) hfx2) id)
          have HF3 := Lib.hid (HF2.out.trans (Fr.trans (b := _) (by repeat first | exact Fr.refl _ _ | apply Fr.drewN | apply Fr.drew | apply Fr.alloc) hfx2))
          clear HH2 hfx2 r20 r21 r22 s20 s21 s22 hl2a hl2b
          obtain ⟨r20, r21, r22, _, _, _⟩ := HP3.out.c3
          obtain ⟨s20, s21, s22, _, _, _⟩ := HT3.out.h2.bk.c3
          have hl2a := HP3.out.lt
          have hl2b := HT3.out.h2.bk.lt
          go_wp2_with fail
          all_goals
            rw [rounds_succ]
            go_wp2_with fail
            go_ret
            exact ⟨rfl, Fr.trans HF3.out (by repeat first | exact Fr.refl _ _ | apply Fr.drewN | apply Fr.drew | apply Fr.alloc)⟩
    · go_wp2_with fail
      refine wp_loop_rounds 4 ?_
      have HA0 := fun W (hfr : Fr Nil wc W) => all_calls L0 (some ⟨b0, 0, none⟩) q0 W (FiveG.Doer.len HT0.out.h0) (FiveG.Doer.slc ((HT0.out.fr hfr).h0))
      rw [hs0] at HA0
      unfold faultOf at HA0
      have HH0 := Lib.hid HA0
      clear HA0
      obtain ⟨r00, r01, r02, _, _, _⟩ := HP0.out.c3
      obtain ⟨s00, s01, s02, _, _, _⟩ := HT0.out.h0.bk.c3
      have hl0a := HP0.out.lt
      have hl0b := HT0.out.h0.bk.lt
      rw [rounds_succ]
      go_wp2_with fail
      refine (HH0.out _ (by repeat first | exact Fr.refl _ _ | apply Fr.drewN | apply Fr.drew | apply Fr.alloc)).mono ?_
      rintro e x0 ⟨rfl, hfx0⟩
      have HT1 := Lib.hid (HT0.out.fr (Fr.trans (b := _) (by repeat first | exact Fr.refl _ _ | apply Fr.drewN | apply Fr.drew | apply Fr.alloc) hfx0))
      have HP1 := Lib.hid (HP0.out.fr (S := Nil) (Fr.trans (b := _) (by repeat first | exact Fr.refl _ _ | apply Fr.drewN | apply Fr.drew | apply Fr.alloc) hfx0) id)
      have HF1 := Lib.hid (HF0.out.trans (Fr.trans (b := _) (by repeat first | exact Fr.refl _ _ | apply Fr.drewN | apply Fr.drew | apply Fr.alloc) hfx0))
      clear HH0 hfx0 r00 r01 r02 s00 s01 s02 hl0a hl0b
      obtain ⟨r00, r01, r02, _, _, _⟩ := HP1.out.c3
      obtain ⟨s00, s01, s02, _, _, _⟩ := HT1.out.h0.bk.c3
      have hl0a := HP1.out.lt
      have hl0b := HT1.out.h0.bk.lt
      go_wp2_with fail
      all_goals
        have HA1 := fun W (hfr : Fr Nil x0 W) => all_calls L1 (some ⟨b1, 0, none⟩) q1 W (FiveG.Doer.len HT1.out.h1) (FiveG.Doer.slc ((HT1.out.fr hfr).h1))
        rw [hs1] at HA1
        unfold faultOf at HA1
        have HH1 := Lib.hid HA1
        clear HA1
        obtain ⟨r10, r11, r12, _, _, _⟩ := HP1.out.c3
        obtain ⟨s10, s11, s12, _, _, _⟩ := HT1.out.h1.bk.c3
        have hl1a := HP1.out.lt
        have hl1b := HT1.out.h1.bk.lt
        rw [rounds_succ]
        go_wp2_with fail
        refine (HH1.out _ (by repeat first | exact Fr.refl _ _ | apply Fr.drewN | apply Fr.drew | apply Fr.alloc)).mono ?_
        rintro e x1 ⟨rfl, hfx1⟩
        have HT2 := Lib.hid (HT1.out.fr (Fr.trans (b := _) (by repeat first | exact Fr.refl _ _ | apply Fr.drewN | apply Fr.drew | apply Fr.alloc) hfx1))
        have HP2 := Lib.hid (HP1.out.fr (S := Nil) (Fr.trans (b := _) (by repeat first | exact Fr.refl _ _ | apply Fr.drewN | apply Fr.drew | apply Fr.alloc) hfx1) id)
        have HF2 := Lib.hid (HF1.out.trans (Fr.trans (b := _) (by repeat first | exact Fr.refl _ _ | apply Fr.drewN | apply Fr.drew | apply Fr.alloc) hfx1))
        clear HH1 hfx1 r10 r11 r12 s10 s11 s12 hl1a hl1b
        obtain ⟨r10, r11, r12, _, _, _⟩ := HP2.out.c3
        obtain ⟨s10, s11, s12, _, _, _⟩ := HT2.out.h1.bk.c3
        have hl1a := HP2.out.lt
        have hl1b := HT2.out.h1.bk.lt
        go_wp2_with fail
        all_goals
          have HA2 := fun W (hfr : Fr Nil x1 W) => all_calls L2 (some ⟨b2, 0, none⟩) q2 W (FiveG.Doer.len HT2.out.h2) (FiveG.Doer.slc ((HT2.out.fr hfr).h2))
          rw [hs2] at HA2
          unfold faultOf at HA2
          have HH2 := Lib.hid HA2
          clear HA2
          obtain ⟨r20, r21, r22, _, _, _⟩ := HP2.out.c3
          obtain ⟨s20, s21, s22, _, _, _⟩ := HT2.out.h2.bk.c3
          have hl2a := HP2.out.lt
          have hl2b := HT2.out.h2.bk.lt
          rw [rounds_succ]
          go_wp2_with fail
          refine (HH2.out _ (by repeat first | exact Fr.refl _ _ | apply Fr.drewN | apply Fr.drew | apply Fr.alloc)).mono ?_
          rintro e x2 ⟨rfl, hfx2⟩
          have HT3 := Lib.hid (HT2.out.fr (Fr.trans (b := _) (by repeat first | exact Fr.refl _ _ | apply Fr.drewN | apply Fr.drew | apply Fr.alloc) hfx2))
          have HP3 := Lib.hid (HP2.out.fr (S := Nil) (Fr.trans (b := _) (by repeat first | exact Fr.refl _ _ | apply Fr.drewN | apply Fr.drew | apply Fr.alloc) hfx2) id)
          have HF3 := Lib.hid (HF2.out.trans (Fr.trans (b := _) (by repeat first | exact Fr.refl _ _ | apply Fr.drewN | apply Fr.drew | apply Fr.alloc) hfx2))
          clear HH2 hfx2 r20 r21 r22 s20 s21 s22 hl2a hl2b
          obtain ⟨r20, r21, r22, _, _, _⟩ := HP3.out.c3
          obtain ⟨s20, s21, s22, _, _, _⟩ := HT3.out.h2.bk.c3
          have hl2a := HP3.out.lt
          have hl2b := HT3.out.h2.bk.lt
          go_wp2_with fail
          go_quiet (fail)
          go_wp2_with fail
          all_goals
            rw [rounds_succ]
            go_wp2_with fail
            go_ret
            exact ⟨rfl, Fr.trans HF3.out (by repeat first | exact Fr.refl _ _ | apply Fr.drewN | apply Fr.drew | apply Fr.alloc)⟩
    · go_wp2_with fail
      refine wp_loop_rounds 4 ?_
      have HA0 := fun W (hfr : Fr Nil wc W) => all_calls L0 (some ⟨b0, 0, none⟩) q0 W (FiveG.Doer.len HT0.out.h0) (FiveG.Doer.slc ((HT0.out.fr hfr).h0))
      rw [hs0] at HA0
      unfold faultOf at HA0
      have HH0 := Lib.hid HA0
      clear HA0
      obtain ⟨r00, r01, r02, _, _, _⟩ := HP0.out.c3
      obtain ⟨s00, s01, s02, _, _, _⟩ := HT0.out.h0.bk.c3
      have hl0a := HP0.out.lt
      have hl0b := HT0.out.h0.bk.lt
      rw [rounds_succ]
      go_wp2_with fail
      refine (HH0.out _ (by repeat first | exact Fr.refl _ _ | apply Fr.drewN | apply Fr.drew | apply Fr.alloc)).mono ?_
      rintro e x0 ⟨rfl, hfx0⟩
      have HT1 := Lib.hid (HT0.out.fr (Fr.trans (b := _) (by repeat first | exact Fr.refl _ _ | apply Fr.drewN | apply Fr.drew | apply Fr.alloc) hfx0))
      have HP1 := Lib.hid (HP0.out.fr (S := Nil) (Fr.trans (b := _) (by repeat first | exact Fr.refl _ _ | apply Fr.drewN | apply Fr.drew | apply Fr.alloc) hfx0) id)
      have HF1 := Lib.hid (HF0.out.trans (Fr.trans (b := _) (by repeat first | exact Fr.refl _ _ | apply Fr.drewN | apply Fr.drew | apply Fr.alloc) hfx0))
      clear HH0 hfx0 r00 r01 r02 s00 s01 s02 hl0a hl0b
      obtain ⟨r00, r01, r02, _, _, _⟩ := HP1.out.c3
      obtain ⟨s00, s01, s02, _, _, _⟩ := HT1.out.h0.bk.c3
      have hl0a := HP1.out.lt
      have hl0b := HT1.out.h0.bk.lt
      go_wp2_with fail
      all_goals
        have HA1 := fun W (hfr : Fr Nil x0 W) => all_calls L1 (some ⟨b1, 0, none⟩) q1 W (FiveG.Doer.len HT1.out.h1) (FiveG.Doer.slc ((HT1.out.fr hfr).h1))
        rw [hs1] at HA1
        unfold faultOf at HA1
        have HH1 := Lib.hid HA1
        clear HA1
        obtain ⟨r10, r11, r12, _, _, _⟩ := HP1.out.c3
        obtain ⟨s10, s11, s12, _, _, _⟩ := HT1.out.h1.bk.c3
        have hl1a := HP1.out.lt
        have hl1b := HT1.out.h1.bk.lt
        rw [rounds_succ]
        go_wp2_with fail
        refine (HH1.out _ (by repeat first | exact Fr.refl _ _ | apply Fr.drewN | apply Fr.drew | apply Fr.alloc)).mono ?_
        rintro e x1 ⟨rfl, hfx1⟩
        have HT2 := Lib.hid (HT1.out.fr (Fr.trans (b := _) (by repeat first | exact Fr.refl _ _ | apply Fr.drewN | apply Fr.drew | apply Fr.alloc) hfx1))
        have HP2 := Lib.hid (HP1.out.fr (S := Nil) (Fr.trans (b := _) (by repeat first | exact Fr.refl _ _ | apply Fr.drewN | apply Fr.drew | apply Fr.alloc) hfx1) id)
        have HF2 := Lib.hid (HF1.out.trans (Fr.trans (b := _) (by repeat first | exact Fr.refl _ _ | apply Fr.drewN | apply Fr.drew | apply Fr.alloc) hfx1))
        clear HH1 hfx1 r10 r11 r12 s10 s11 s12 hl1a hl1b
        obtain ⟨r10, r11, r12, _, _, _⟩ := HP2.out.c3
        obtain ⟨s10, s11, s12, _, _, _⟩ := HT2.out.h1.bk.c3
        have hl1a := HP2.out.lt
        have hl1b := HT2.out.h1.bk.lt
        go_wp2_with fail
        all_goals
          have HA2 := fun W (hfr : Fr Nil x1 W) => all_calls L2 (some ⟨b2, 0, none⟩) q2 W (FiveG.Doer.len HT2.out.h2) (FiveG.Doer.slc ((HT2.out.fr hfr).h2))
          rw [hs2] at HA2
          unfold faultOf at HA2
          have HH2 := Lib.hid HA2
          clear HA2
          obtain ⟨r20, r21, r22, _, _, _⟩ := HP2.out.c3
          obtain ⟨s20, s21, s22, _, _, _⟩ := HT2.out.h2.bk.c3
          have hl2a := HP2.out.lt
          have hl2b := HT2.out.h2.bk.lt
          rw [rounds_succ]
          go_wp2_with fail
          refine (HH2.out _ (by repeat first | exact Fr.refl _ _ | apply Fr.drewN | apply Fr.drew | apply Fr.alloc)).mono ?_
          rintro e x2 ⟨rfl, hfx2⟩
          have HT3 := Lib.hid (HT2.out.fr (Fr.trans (b := _) (by repeat first | exact Fr.refl _ _ | apply Fr.drewN | apply Fr.drew | apply Fr.alloc) hfx2))
          have HP3 := Lib.hid (HP2.out.fr (S := Nil) (Fr.trans (b := _) (by repeat first | exact Fr.refl _ _ | apply Fr.drewN | apply Fr.drew | apply Fr.alloc) hfx2) id)
          have HF3 := Lib.hid (HF2.out.trans (Fr.trans (b := _) (by repeat first | exact Fr.refl _ _ | apply Fr.drewN | apply Fr.drew | apply Fr.alloc) hfx2))
          clear HH2 hfx2 r20 r21 r22 s20 s21 s22 hl2a hl2b
          obtain ⟨r20, r21, r22, _, _, _⟩ := HP3.out.c3
          obtain ⟨s20, s21, s22, _, _, _⟩ := HT3.out.h2.bk.c3
          have hl2a := HP3.out.lt
          have hl2b := HT3.out.h2.bk.lt
          go_wp2_with fail
          all_goals
            rw [rounds_succ]
            go_wp2_with fail
            go_ret
            exact ⟨rfl, Fr.trans HF3.out (by repeat first | exact Fr.refl _ _ | apply Fr.drewN | apply Fr.drew | apply Fr.alloc)⟩
end Go.Proofs.Ytendhgnhncnabaa.FiveM
