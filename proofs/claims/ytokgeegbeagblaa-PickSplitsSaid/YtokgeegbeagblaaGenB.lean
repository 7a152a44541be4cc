/- Chapter 8: the walk of by, with any comparison. -/
import Derived.Test.YtokgeegbeagblaaGenA
import Derived.IntWalk
namespace Go.Proofs.Ytokgeegbeagblaa.GenB
open Go.RowKit Base SortA SortB SortC SortD SortE SortG SortI SortJ SortK Quiet PickA GenA
set_option linter.unusedVariables false
set_option linter.unusedSimpArgs false

section
variable {F : FuncId} {first : Array Value} {S : Nat → Prop} {J : Nat → World → Prop}
theorem by_none (L : Ls F first S J) (w : World) : Calls Try.prog 30 #[.slice none 0 0, lessG F first] w fun e w' => e = .returned (.slice none 0 0) ∧ Fr Nil w w' := by
  unfold lessG
  have K := Lib.hid (fun W => clone_none W)
  go_enter Try.func30, Try.ntmps30
  go_wp2_with fail
  refine (K.out _).mono ?_
  rintro e w1 ⟨rfl, hf1⟩
  go_wp2_with fail
  refine wp_loop_rounds 1 ?_
  rw [rounds_succ]
  go_wp2
  go_ret
  exact ⟨rfl, hf1⟩

set_option maxRecDepth 100000 in
set_option maxHeartbeats 4000000 in
theorem by_some (L : Ls F first S J) (n : Nat) (l : List Pr) (g0 o0 cap0 : Nat) (w : World) (hl : l.length ≤ 200) (hn : n ≤ 100000) (hv : Sl w (.slice (some ⟨g0, o0, none⟩) l.length cap0) l) (hJ : J n w) :
    Calls Try.prog 30 #[.slice (some ⟨g0, o0, none⟩) l.length cap0, lessG F first] w fun e w' => ∃ u, e = .returned u ∧ Fr S w w' ∧ Sl w' u (isort l) ∧ (∀ g, u.ownBlock = some g → w.heap.size ≤ g) ∧ Cnt J n (tri l.length) w' := by
  unfold lessG
  have K := Lib.hid (clone_some l g0 o0 cap0 w (by omega) hv)
  have HL0 := Lib.hid L
  have henters := L.enters
  have hS := fun k hk => L.lt n w k hJ hk
  have HSW := Lib.hid hS
  have HJ := Lib.hid hJ
  clear hv hS hJ
  go_enter Try.func30, Try.ntmps30
  go_wp2_with fail
  refine K.out.mono ?_
  rintro e w1 ⟨u, rfl, hf1, ho, hnn⟩
  have HJ1 := Lib.hid (HL0.out.nil HJ.out hf1)
  obtain ⟨g, cap, rfl, hc, hm0⟩ := Mine.of_own ho hf1 hnn
  have hm := MineS.of (S := S) hm0 hf1.of_nil
  have HG := Lib.hid (show ¬ S g from fun s => by have := HSW.out g s; have := hm0.new; omega)
  clear ho hnn hf1 K hm0
  go_wp2_with fail
  go_loopw [12] (fun i wr => ∃ j : Nat, j ≤ l.length ∧ i = .int .i64 j ∧ MineS S w g (isort (l.take j) ++ l.drop j) wr ∧ Cnt J n (tri j) wr) (fun i _ => l.length - (intOf i).toNat)
  case atStart => exact ⟨0, by omega, rfl, by simpa [isort] using hm, Cnt.zero HJ1.out⟩
  case round =>
    obtain ⟨j, hj, rfl, hmr, hcr⟩ := hrel
    by_cases hlt : j < l.length
    · obtain ⟨x, hx⟩ : ∃ x, l[j]? = some x := ⟨l[j], List.getElem?_eq_getElem hlt⟩
      have HGO := Lib.hid (Going.start hx)
      have HX := Lib.hid hx
      have HM := Lib.hid hmr
      have HC := Lib.hid hcr
      clear hm hmr hx hcr
      go_wp2_with fail
      go_loopw [7] (fun i wk => ∃ (k : Nat) (L : List Pr), k ≤ j ∧ i = .int .i64 k ∧ Going l j x k L ∧ MineS S w g L wk ∧ Cnt J n (tri j + (j - k)) wk) (fun i _ => (intOf i).toNat)
      case atStart => exact ⟨j, _, Nat.le_refl _, rfl, HGO.out, HM.out, HC.out.le (by omega)⟩
      case round =>
        obtain ⟨k, L, hk, rfl, hg, hmk, hck⟩ := hrel
        have e1 : isort (l.take (j + 1)) = isort (l.take j ++ [x]) := by
          obtain ⟨h1, h2⟩ := List.getElem?_eq_some_iff.1 HX.out
          rw [List.take_succ_eq_append_getElem h1, h2]
        have E1 := Lib.hid e1
        clear e1
        rcases Nat.eq_zero_or_pos k with rfl | hpos
        · have HL := Lib.hid (show L = isort (l.take (j + 1)) ++ l.drop (j + 1) by rw [E1.out]; exact hg.zero)
          have HK := Lib.hid hmk
          have HC2 := Lib.hid hck
          clear hg hmk hck
          go_wp2_with fail
          go_quiet (fail)
          go_wp2_with fail
          go_roundw
          case rel => exact ⟨j + 1, by omega, by go_num, by rw [← HL.out]; exact HK.out.drewN _, (HC2.out.nil HL0.out ((Fr.refl _ _).drewN _)).le (by rw [tri_succ]; omega)⟩
          case measure => simp [intOf]; omega
        · obtain ⟨k, rfl⟩ : ∃ k', k = k' + 1 := ⟨k - 1, by omega⟩
          have hlen := hg.len hlt
          obtain ⟨y, A, C, hA, rfl, hyes, hno⟩ := hg.step
          have ly : (A ++ y :: x :: C)[k]? = some y := by rw [← hA]; simp
          have lx : (A ++ y :: x :: C)[k + 1]? = some x := by rw [← hA]; simp
          obtain ⟨cy0, cy1⟩ := MineS.at_ hmk ly
          obtain ⟨cx0, cx1⟩ := MineS.at_ hmk lx
          have HY := Lib.hid hyes
          have HN := Lib.hid hno
          have HK := Lib.hid hmk
          have HL := Lib.hid hlen
          have HC2 := Lib.hid hck
          have TR := Lib.hid (show n + (tri j + (j - (k + 1))) ≤ 1000000 by have := tri_bd j; have : j * j ≤ 200 * 200 := Nat.mul_le_mul (by omega) (by omega); omega)
          have b1 : (k : Int) + 1 < l.length := by omega
          have b2 : (k : Int) < l.length := by omega
          have b0 : (0 : Int) ≤ k := by omega
          have b3 : (0 : Int) ≤ (k : Int) + 1 := by omega
          have b4 : ((k : Int) + 1).toNat = k + 1 := by omega
          have b5 : IntKind.i64.wrap (k : Int) = k := IntWalk.i64_in _ (by omega)
          have HLY := Lib.hid ly
          have HLX := Lib.hid lx
          clear hyes hno hmk hlen hg ly lx hck
          go_wp2_with fail
          go_region_held_law (fun w' => w'.cell? ⟨g, k * 2, none⟩ = some (.int .i64 y.1) ∧ w'.cell? ⟨g, k * 2 + 1, none⟩ = some (.int .i64 y.2) ∧ w'.cell? ⟨g, (k + 1) * 2, none⟩ = some (.int .i64 x.1) ∧ w'.cell? ⟨g, (k + 1) * 2 + 1, none⟩ = some (.int .i64 x.2)) (first | (go_keep; done))
            (first | ((with_reducible refine ((HC2.out.nil HL0.out ((Fr.refl Nil _).drew)).call HL0.out TR.out x y).mono ?_); rintro e w2 ⟨rfl, hf2, hc2⟩; have hm2 := HK.out.drew.keep hf2 HG.out; obtain ⟨z0, z1⟩ := MineS.at_ hm2 HLY.out; obtain ⟨z2, z3⟩ := MineS.at_ hm2 HLX.out))
          have HK2 := Lib.hid hm2
          have HC3 := Lib.hid hc2
          clear z0 z1 z2 z3 cy0 cy1 cx0 cx1 hf2 hc2 hm2
          by_cases hxy : x.1 < y.1
          · obtain ⟨cy0, cy1⟩ := MineS.at_ HK2.out HLY.out
            obtain ⟨cx0, cx1⟩ := MineS.at_ HK2.out HLX.out
            have fy0 := HK2.out.froz (k * 2)
            have fy1 := HK2.out.froz (k * 2 + 1)
            have fx0 := HK2.out.froz ((k + 1) * 2)
            have fx1 := HK2.out.froz ((k + 1) * 2 + 1)
            have hgl := HK2.out.lt
            have HXY := Lib.hid (HY.out hxy)
            go_wp2_with fail
            go_region
            have hM : MineS S w g (A ++ x :: y :: C) ((st (st w2 g (k + 1) y) g k x).drew) ∧ Cnt J n (tri j + (j - (k + 1)) + 1) ((st (st w2 g (k + 1) y) g k x).drew) := by
              have h1 := MineS.st (MineS.st HK2.out (i := k + 1) (by simp; omega) y) (i := k) (by simp; omega) x
              have e := swap1 A C x y
              rw [hA] at e
              rw [e] at h1
              exact ⟨h1.drew, ((HC3.out.keep HL0.out (st_fr w2 g (k + 1) y) (fun i hi => by rw [hi]; exact HG.out)).keep HL0.out (st_fr _ g k x) (fun i hi => by rw [hi]; exact HG.out)).nil HL0.out ((Fr.refl _ _).drew)⟩
            unfold st at hM
            clear cy0 cy1 cx0 cx1 fy0 fy1 fx0 fx1 hgl
            generalize (World.drew _) = w3 at hM ⊢
            have HM3 := Lib.hid hM
            clear hM
            go_wp2_with fail
            go_roundw
            case rel => exact ⟨k, _, by omega, by go_num, HXY.out, HM3.out.1, HM3.out.2.le (by omega)⟩
            case measure => simp [intOf]
          · have HE := Lib.hid (HN.out (by omega))
            go_wp2_with fail
            go_roundw
            case rel => exact ⟨j + 1, by omega, by go_num, by rw [E1.out, ← HE.out]; exact HK2.out, HC3.out.le (by rw [tri_succ]; omega)⟩
            case measure => simp [intOf]; omega
    · obtain rfl : j = l.length := by omega
      have HM := Lib.hid hmr
      have HC := Lib.hid hcr
      clear hm hmr hcr
      go_wp2_with fail
      go_ret
      exact ⟨_, rfl, HM.out.fr, by have h := HM.out; simp at h; exact MineS.sl h (by rw [isort_len]; exact hc) _ (by rw [isort_len]), fun g' hg' => by cases hg'; exact HM.out.new, HC.out⟩
end
end Go.Proofs.Ytokgeegbeagblaa.GenB
