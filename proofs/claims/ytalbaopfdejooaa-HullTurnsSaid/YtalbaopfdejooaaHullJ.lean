/- Chapter 41: good points; the walk of hull.of. -/
import Derived.Test.YtalbaopfdejooaaHullI
namespace Go.Proofs.Ytalbaopfdejooaa.HullJ
open Go.RowKit Base Slices RowsA KernA AreaA HullD HullE HullF HullG HullH HullI Quiet
set_option linter.unusedVariables false
set_option linter.unusedSimpArgs false

/-- a good point -/
def gd (p : Pn) : Bool := inI p.1 && lieB p.2.1 p.2.2
theorem gd_lie {p : Pn} (h : gd p = true) : lie p = true := by
  unfold gd at h; unfold lie
  rw [Bool.and_eq_true] at h; exact h.2
theorem good_any (p : Pn) (w : World) : Calls Try.prog 61 #[.agg #[.int .i64 p.1, .int .i64 p.2.1, .int .i64 p.2.2]] w fun e w' => e = .returned (.bool (gd p)) ∧ Fr Nil w w' := KernG.Good_any p.1 p.2.1 p.2.2 w
theorem rgood_any (p : Pn) (w : World) : Calls Try.prog 17 #[.agg #[.int .i64 p.1, .int .i64 p.2.1, .int .i64 p.2.2]] w fun e w' => e = .returned (.bool (gd p)) ∧ Fr Nil w w' := KernG.rGood_any p.1 p.2.1 p.2.2 w
def oddV : Value := .func (.func 35) #[] #[]
set_option maxHeartbeats 1000000 in
theorem odd_any (p : Pn) (w : World) : Calls Try.prog 35 #[.agg #[.int .i64 p.1, .int .i64 p.2.1, .int .i64 p.2.2]] w fun e w' => e = .returned (.bool (!gd p)) ∧ Fr Nil w w' := by
  have k0 := fun W => good_any p W
  generalize gd p = b0 at *
  have K0 := Lib.hid k0
  clear k0
  go_enter Try.func35, Try.ntmps35
  go_wp2_with fail
  refine (K0.out _).mono ?_
  rintro e w0 ⟨rfl, hf⟩
  have g1 := Fr.trans (a := w) (by (repeat' (with_reducible first | refine Fr.setCell ?_ (fun hlt => absurd hlt (by dsimp only; omega)) _ | refine Fr.alloc ?_ _ | refine Fr.drewN ?_ _ | refine Fr.drew ?_ | exact Fr.refl _ _))) hf
  clear hf
  go_wp2_with fail
  exact bodyPost_ret (v := .bool _) (by simp [results, Try.results35, go_sem]) rfl ⟨rfl, by (repeat' (with_reducible first | exact g1 | refine Fr.setCell ?_ (fun hlt => absurd hlt (by dsimp only; omega)) _ | refine Fr.alloc ?_ _ | refine Fr.drewN ?_ _ | refine Fr.drew ?_))⟩

set_option maxRecDepth 100000 in
set_option maxHeartbeats 4000000 in
theorem index_any (l : List Pn) (v : Value) (w : World) (hl : l.length ≤ 1000) (hv : Sl EPt w v l) :
    Calls Try.prog 70 #[v, oddV] w fun e w' => ∃ n : Int, e = .returned (.int .i64 n) ∧ Fr Nil w w' ∧ ((n = -1 ∧ ∀ p ∈ l, gd p = true) ∨ (0 ≤ n ∧ ∃ p ∈ l, gd p = false)) := by
  unfold oddV
  rcases hv with ⟨rfl, rfl⟩ | ⟨g, o, cap, rfl, hc, ha, hr⟩
  · go_enter Try.func70, Try.ntmps70
    go_wp2_with fail
    refine wp_loop_rounds 1 ?_
    rw [rounds_succ]
    go_wp2
    go_ret
    exact ⟨_, rfl, Fr.refl _ _, Or.inl ⟨rfl, by simp⟩⟩
  · go_enter Try.func70, Try.ntmps70
    go_wp2_with fail
    go_loopw [8] (fun i wr => ∃ (k : Nat), k ≤ l.length ∧ i = .int .i64 k ∧ (∀ (j : Nat) p, j < k → l[j]? = some p → gd p = true) ∧ Fr Nil w wr) (fun i _ => l.length - (intOf i).toNat)
    case atStart => exact ⟨0, by omega, rfl, fun j p h => absurd h (by omega), Fr.refl _ _⟩
    case round =>
      obtain ⟨k, hk, rfl, ho, hf⟩ := hrel
      by_cases hlt : k < l.length
      · obtain ⟨y, hy⟩ : ∃ y, l[k]? = some y := ⟨l[k], List.getElem?_eq_getElem hlt⟩
        obtain ⟨c0, c1, c2⟩ := pt_at (hr.fr hf ha id) hy
        have HF := Lib.hid hf
        have KO := Lib.hid (fun W => odd_any y W)
        have HO := Lib.hid ho
        have HY := Lib.hid hy
        have HM := Lib.hid (List.mem_of_getElem? hy)
        clear hf ho hy
        rcases hz : gd y with _ | _
        · have HZ := Lib.hid hz
          simp only [hz, Bool.not_false] at KO
          clear hz
          go_wp2_with fail
          refine (KO.out _).mono ?_
          rintro e w2 ⟨rfl, hfq⟩
          have HF2 := Lib.hid (HF.out.trans hfq)
          clear hfq
          go_wp2_with fail
          go_ret
          exact ⟨_, rfl, HF2.out, Or.inr ⟨by omega, y, HM.out, HZ.out⟩⟩
        · have HZ := Lib.hid hz
          simp only [hz, Bool.not_true] at KO
          clear hz
          go_wp2_with fail
          refine (KO.out _).mono ?_
          rintro e w2 ⟨rfl, hfq⟩
          have HF2 := Lib.hid (HF.out.trans hfq)
          clear hfq
          go_wp2_with fail
          go_roundw
          case rel =>
            refine ⟨k + 1, by omega, by go_num, fun j p hj hp => ?_, HF2.out⟩
            rcases Nat.lt_or_ge j k with h | h
            · exact HO.out j p h hp
            · obtain rfl : j = k := by omega
              have e := HY.out
              rw [hp] at e
              obtain rfl := Option.some.inj e
              exact HZ.out
          case measure => simp [intOf]; omega
      · obtain rfl : k = l.length := by omega
        go_wp2_with fail
        go_ret
        refine ⟨_, rfl, hf, Or.inl ⟨rfl, fun p hp => ?_⟩⟩
        obtain ⟨j, hj, rfl⟩ := List.getElem_of_mem hp
        exact ho j _ hj (List.getElem?_eq_getElem hj)

set_option maxHeartbeats 1000000 in
theorem contains_any (l : List Pn) (v : Value) (w : World) (hl : l.length ≤ 1000) (hv : Sl EPt w v l) :
    Calls Try.prog 49 #[v, oddV] w fun e w' => ∃ b : Bool, e = .returned (.bool b) ∧ Fr Nil w w' ∧ ((b = false ∧ ∀ p ∈ l, gd p = true) ∨ (b = true ∧ ∃ p ∈ l, gd p = false)) := by
  have K := Lib.hid (index_any l v w hl hv)
  obtain ⟨A, c, rfl⟩ := hv.shape
  unfold oddV at *
  clear hv
  go_enter Try.func49, Try.ntmps49
  go_wp2_with fail
  refine K.out.mono ?_
  rintro e w2 ⟨n, rfl, hfq, hn⟩
  rcases hn with ⟨rfl, h⟩ | ⟨h0, h⟩
  · go_wp2_with fail
    go_ret
    exact ⟨_, rfl, hfq, Or.inl ⟨rfl, h⟩⟩
  · go_wp2_with fail
    go_ret
    exact ⟨_, rfl, hfq, Or.inr ⟨by simp [h0], h⟩⟩

theorem fr_nil {w w' : World} {S : Nat → Prop} (h : Fr S w w') {a : World} (ha : Fr Nil a w) (hS : ∀ k, S k → a.heap.size ≤ k) : Fr Nil a w' := Fr.then ha h (fun i hi hlt => by have := hS i hi; omega)

set_option maxRecDepth 100000 in
set_option maxHeartbeats 4000000 in
theorem of_bad (l : List Pn) (v : Value) (w : World) (hl : l.length ≤ 500) (hv : Sl EPt w v l) (hb : ∃ p ∈ l, gd p = false) :
    Calls Try.prog 30 #[v] w fun e w' => e = .returned (.tuple #[.slice none 0 0, .int .i64 1]) ∧ Fr Nil w w' := by
  have K := Lib.hid (contains_any l v w (by omega) hv)
  obtain ⟨A, c, rfl⟩ := hv.shape
  clear hv
  have hn : ¬ (65536 : Int) < l.length := by omega
  unfold oddV at *
  go_enter Try.func30, Try.ntmps30
  go_wp2_with fail
  refine K.out.mono ?_
  rintro e w1 ⟨b, rfl, hf1, hb1⟩
  rcases hb1 with ⟨rfl, h⟩ | ⟨rfl, h⟩
  · obtain ⟨p, hp, hq⟩ := hb
    rw [h p hp] at hq; cases hq
  · go_wp2_with fail
    exact bodyPost_ret (v := .tuple #[.slice none 0 0, .int .i64 1]) (by simp [results, Try.results30, go_sem]) rfl ⟨rfl, hf1⟩

set_option maxRecDepth 100000 in
set_option maxHeartbeats 8000000 in
theorem of_good (l : List Pn) (v : Value) (w : World) (hl : l.length ≤ 500) (hv : Sl EPt w v l) (hg : ∀ p ∈ l, gd p = true) :
    Calls Try.prog 30 #[v] w fun e w' => ∃ u h, e = .returned (.tuple #[u, .int .i64 0]) ∧ Fr Nil w w' ∧ Own EPt w' w.heap.size u h ∧ HullOf l h := by
  have K := Lib.hid (contains_any l v w (by omega) hv)
  have KV := Lib.hid hv
  obtain ⟨A, c, rfl⟩ := hv.shape
  clear hv
  have hn : ¬ (65536 : Int) < l.length := by omega
  have HG := Lib.hid hg
  clear hg
  unfold oddV at *
  go_enter Try.func30, Try.ntmps30
  go_wp2_with fail
  refine K.out.mono ?_
  rintro e w1 ⟨b, rfl, hf1, hb1⟩
  obtain rfl : b = false := by
    rcases hb1 with ⟨rfl, h⟩ | ⟨rfl, p, hp, hq⟩
    · rfl
    · rw [HG.out p hp] at hq; cases hq
  have KS := Lib.hid (sort_any l _ w1 hl (KV.out.fr hf1))
  have HF1 := Lib.hid hf1
  clear hb1 hf1
  unfold lessV at *
  go_wp2_with fail
  refine KS.out.mono ?_
  rintro e w2 ⟨us, rfl, hf2, hs2⟩
  have KU := Lib.hid (unique_any (srt l) us w2 (by rw [srt_len]; omega) (srt_srt l) hs2)
  have HF2 := Lib.hid (HF1.out.trans hf2)
  clear hf2 hs2
  unfold placesV at *
  go_wp2_with fail
  refine KU.out.mono ?_
  rintro e w3 ⟨u3, P, rfl, hf3, ho3, hP, hlen⟩
  rw [srt_len] at hlen
  have HF3 := Lib.hid (HF2.out.trans hf3)
  have HO3 := Lib.hid (ho3.weaken HF2.out.size)
  have HP := Lib.hid (hP.perm (srt_perm l))
  have hmem : ∀ p ∈ P, gd p = true := fun p hp => HG.out p (HP.out.2.1 p hp).1
  have HMM := Lib.hid hmem
  clear hf3 ho3 hP hmem KS KU K HF1 HF2
  by_cases hsh : P.length < 2
  · have HH := Lib.hid (HullOf.code HP.out)
    rw [if_pos hsh] at HH
    obtain ⟨A3, c3, rfl⟩ := (HO3.out.sl EPt_ok).shape
    have h2 : (P.length : Int) < 2 := by omega
    go_wp2_with fail
    exact bodyPost_ret (v := .tuple #[.slice A3 P.length c3, .int .i64 0]) (by simp [results, Try.results30, go_sem]) rfl ⟨_, P, rfl, HF3.out, HO3.out, HH.out⟩
  · have HH := Lib.hid (HullOf.code HP.out)
    rw [if_neg hsh] at HH
    have hnn : u3 ≠ .slice none 0 0 := fun e => by
      have h := HO3.out
      rw [e] at h
      rcases h.shape with ⟨_, h0⟩ | ⟨g, cap, h0, _⟩
      · rw [h0] at hsh; simp at hsh
      · cases h0
    obtain ⟨g, cap, rfl, hc, hm⟩ := Mine.of_own HO3.out HF3.out hnn
    have HM := Lib.hid hm
    have KC := Lib.hid (chain_any P _ w3 (by omega) (fun p hp => gd_lie (HMM.out p hp)) (HO3.out.sl EPt_ok))
    have h2 : ¬ (P.length : Int) < 2 := by omega
    clear hm hnn
    go_wp2_with fail
    refine KC.out.mono ?_
    rintro e w4 ⟨u4, rfl, hf4, ho4⟩
    have HF4 := Lib.hid (HF3.out.trans hf4)
    have KR := Lib.hid (reverse_any P g cap w w4 (by omega) (by omega) hc (HM.out.keep hf4))
    have hgs : g < w3.heap.size := HM.out.lt
    have HO4 := Lib.hid ho4
    clear hf4 ho4 KC
    go_wp2_with fail
    refine KR.out.mono ?_
    rintro e w5 ⟨rfl, hm5, hf5⟩
    have HO5 := Lib.hid (HO4.out.fr hf5 (fun k hk e => by have := (HO4.out.lt k hk).1; omega))
    have HF5 := Lib.hid hm5.fr
    have hsl : Sl EPt w5 (.slice (some ⟨g, 0, none⟩) P.length cap) P.reverse := hm5.sl (by simpa using hc) _ (by simp)
    have KC2 := Lib.hid (chain_any P.reverse _ w5 (by simp; omega) (fun p hp => gd_lie (HMM.out p (by simpa using hp))) hsl)
    clear hm5 hf5 hsl KR HO4
    go_wp2_with fail
    refine KC2.out.mono ?_
    rintro e w6 ⟨u6, rfl, hf6, ho6⟩
    have HF6 := Lib.hid (HF5.out.trans hf6)
    have HO56 := Lib.hid (HO5.out.fr hf6 (fun _ _ h => h))
    have HO6 := Lib.hid ho6
    clear hf6 ho6 KC2 HO5 HF5
    have e1 : HullA.chain P = (HullA.lows P).reverse := HullA.chain_lows P HP.out.1
    have e2 : HullA.chain P.reverse = HullB.highs P := HullB.chain_highs HP.out.1
    rw [e1, List.reverse_reverse] at HO56
    rw [e2] at HO6
    obtain ⟨t, mid, z, hP⟩ := HullC.two_ends (s := P) (by omega)
    have hL1 : 1 ≤ (HullA.lows P).length := by
      have h := HP.out.1
      rw [hP] at h ⊢
      rw [HullC.lows_ends h]; simp
    have hH1 : 1 ≤ (HullB.highs P).reverse.length := by
      have h := HP.out.1
      rw [hP] at h ⊢
      rw [HullC.highs_ends h]; simp
    have hL2 : (HullA.lows P).length ≤ P.length := List.length_filter_le _ _
    have hH2 : (HullB.highs P).reverse.length ≤ P.length := by rw [List.length_reverse]; exact List.length_filter_le _ _
    have HHP := Lib.hid (show HullC.hullP P = (HullA.lows P).dropLast ++ (HullB.highs P).reverse.dropLast from rfl)
    clear hP e1 e2
    generalize HullA.lows P = L at *
    generalize (HullB.highs P).reverse = H at *
    have h4 : u4 ≠ .slice none 0 0 := fun e => by
      have h := HO56.out
      rw [e] at h
      rcases h.shape with ⟨_, h0⟩ | ⟨g, cap, h0, _⟩
      · rw [h0] at hL1; simp at hL1
      · cases h0
    have h6 : u6 ≠ .slice none 0 0 := fun e => by
      have h := HO6.out
      rw [e] at h
      rcases h.shape with ⟨_, h0⟩ | ⟨g, cap, h0, _⟩
      · rw [h0] at hH1; simp at hH1
      · cases h0
    rcases HO56.out.shape with ⟨e, _⟩ | ⟨g4, c4, rfl, hc4, _⟩
    · exact absurd e h4
    rcases HO6.out.shape with ⟨e, _⟩ | ⟨g6, c6, rfl, hc6, _⟩
    · exact absurd e h6
    obtain ⟨n, hn⟩ : ∃ n, L.length = n + 1 := ⟨L.length - 1, by omega⟩
    obtain ⟨m, hm⟩ : ∃ m, H.length = m + 1 := ⟨H.length - 1, by omega⟩
    have hdL : L.take n = L.dropLast := by rw [List.dropLast_eq_take, hn]; rfl
    have hdH : H.take m = H.dropLast := by rw [List.dropLast_eq_take, hm]; rfl
    have T4 := (Own.take EPt_ok HO56.out n (by omega)).sl EPt_ok
    have T6 := (Own.take EPt_ok HO6.out m (by omega)).sl EPt_ok
    rw [hdL] at T4
    rw [hdH] at T6
    have KX := Lib.hid (fun (W : World) (hf : Fr Nil w6 W) h0 h1 => concat_any L.dropLast H.dropLast _ _ w6.heap.size W (by simp; omega) (by simp; omega) (T4.fr hf) (T6.fr hf) h0 h1)
    rw [← HHP.out] at KX
    rw [hn] at hc4 ⊢
    rw [hm] at hc6 ⊢
    have b1 : (n : Int) ≤ c4 := by omega
    have b2 : (m : Int) ≤ c6 := by omega
    have b3 : (0 : Int) ≤ n := by omega
    have b4 : (0 : Int) ≤ m := by omega
    have b5 : (n : Int) + 1 ≤ c4 := by omega
    have b6 : (m : Int) + 1 ≤ c6 := by omega
    have HWN := Lib.hid (show IntKind.i64.wrap (n : Int) = n by rw [IntKind.wrap_i64]; omega)
    have HWM := Lib.hid (show IntKind.i64.wrap (m : Int) = m by rw [IntKind.wrap_i64]; omega)
    have he1 : (n : Int) + 1 - 1 = n := by omega
    have he2 : (m : Int) + 1 - 1 = m := by omega
    have hsz : w.heap.size ≤ w6.heap.size := HF6.out.size
    clear h4 h6 hdL hdH T4 T6 hn hm hL1 hH1 hL2 hH2 HO56 HO6 hc4 hc6 hc
    go_wp2_with fail
    have hwn := HWN.out
    have hwm := HWM.out
    go_region_with (first | (go_at_call 31; clear hwn hwm; refine (KX.out _ (by first | exact (Fr.refl Nil _).alloc _ | exact ((Fr.refl Nil _).alloc _).drew | exact ((Fr.refl Nil _).drew).alloc _) (by first | (simp; done) | (go_keep; done)) (by first | (simp; done) | (go_keep; done))).mono ?_; rintro e w7 ⟨u7, rfl, hf7, ho7⟩; have F7 : Fr Nil w w7 := HF6.out.trans (Fr.trans (by first | exact (Fr.refl Nil _).alloc _ | exact ((Fr.refl Nil _).alloc _).drew | exact ((Fr.refl Nil _).drew).alloc _) hf7); have O7 := Own.weaken (b' := w.heap.size) ho7 (by simp; omega)))
    go_wp2_with fail
    exact bodyPost_ret (v := .tuple #[u7, .int .i64 0]) (by simp [results, Try.results30, go_sem]) rfl ⟨u7, _, rfl, F7, O7, HH.out⟩
end Go.Proofs.Ytalbaopfdejooaa.HullJ
