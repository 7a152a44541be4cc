/- Chapter 3: the walk of the law KernAreas. -/
import Derived.Test.YtpngeaklfjofiaaAreaD
import Derived.Test.YtpngeaklfjofiaaKernG
import Derived.Deep.DeepCutAuto
import Derived.Deep.MidRow
import Derived.BigQuiet
namespace Go.Proofs.Ytpngeaklfjofiaa.AreaE
open Go.RowKit Base Slices RowsA KernA KernB AreaA AreaB AreaC AreaD WideB Quiet
set_option linter.unusedVariables false
set_option linter.unusedSimpArgs false
theorem of_made {g : Nat} {n m : Nat} {i : Nat} (h : Slices.Of (.slice (some ⟨g, 0, none⟩) n m) i) : i = g := by
  unfold Slices.Of at h
  simp [Value.ownBlock] at h
  omega
section
variable {ops : Array Oper} {C : World → Prop} {Q : Act → Prop} {a : Act} {rest : List Oper} {dst : Option Tmp} {ty t2 : TypeId} {pos : String} {aft : Array Edge} {gd : Option (Nat × Bool)}
theorem wpQuiet_loadP {y : Operand} {g o : Nat} {p : Pn} (hw : Region.wanted ⟨dst, .load 23 y, ty, pos, aft, gd⟩ (yielded ops a.tmps) = true) (hx : a.eval y = .pointer (some ⟨g, o, none⟩)) (hC : ∀ w, C w → w.rangeAt g o (pc p))
    (h : wpQuiet Try.prog ops C Q rest (a.put dst (.agg (pc p).toArray))) : wpQuiet Try.prog ops C Q (⟨dst, .load 23 y, ty, pos, aft, gd⟩ :: rest) a :=
  BigFrame.wpQuiet_want hw fun K hK => ⟨_, fun w hw' => by
    unfold Oper.quietAt execOp
    simp only [hx, Instr.loadAt, Instr.sureAddr, Sem.run_bind, Sem.run_pure, Result.andThen_ok, run_loadVar_mid w g o 23 (pc p) _ (hC w hw') Try.underlying23 rfl pt_row.size]
    exact ⟨rfl, rfl⟩, hK _ h⟩
theorem wpQuiet_loadD {y : Operand} {m : Nat} {n : Int} (hw : Region.wanted ⟨dst, .load 44 y, ty, pos, aft, gd⟩ (yielded ops a.tmps) = true) (hx : a.eval y = .pointer (some ⟨m, 0, none⟩)) (hC : ∀ w, C w → Bk w m 44 (dcells n))
    (h : wpQuiet Try.prog ops C Q rest (a.put dst (.agg (dcells n)))) : wpQuiet Try.prog ops C Q (⟨dst, .load 44 y, ty, pos, aft, gd⟩ :: rest) a :=
  BigFrame.wpQuiet_want hw fun K hK => ⟨_, fun w hw' => by
    unfold Oper.quietAt execOp
    simp only [hx, Instr.loadAt, Instr.sureAddr, Sem.run_bind, Sem.run_pure, Result.andThen_ok, loadT_run digits_row (hC w hw') rfl]
    exact ⟨rfl, rfl⟩, hK _ h⟩
end
theorem dcells_one (n : Int) : (dcells n).all (·.oneCell') = true := by simp [dcells, Value.oneCell']
theorem row_range {w : World} {g o : Nat} {l : List Pn} (h : Row EPt w g o l) {i : Nat} {p : Pn} (hp : l[i]? = some p) : w.rangeAt g (o + i * 3) (pc p) := fun j v hv => by
  rw [Nat.add_assoc]
  exact Row.at EPt_ok h hp (j := j) (u := v) hv
theorem rl_any (p : Pn) (w : World) : Calls Try.prog 12 #[.agg #[.int .i64 p.1, .int .i64 p.2.1, .int .i64 p.2.2]] w fun e w' => e = .returned (.bool (lie p)) ∧ Fr Nil w w' := KernB.rlies_any p.1 p.2.1 p.2.2 w
theorem turn3 {l : List Pn} {a b c : Pn} (h0 : l[0]? = some a) (h1 : l[1]? = some b) (h2 : l[2]? = some c) (h3 : l.length = 3) (hl : ∀ (j : Nat) p, l[j]? = some p → lie p = true) : tz a.2.1 a.2.2 b.2.1 b.2.2 c.2.1 c.2.2 = WideF.cmpI (S l l.length) 0 := by
  obtain rfl : l = [a, b, c] := by
    apply List.ext_getElem?
    intro i
    match i with
    | 0 => exact h0
    | 1 => exact h1
    | 2 => exact h2
    | i + 3 => rw [List.getElem?_eq_none (by omega), List.getElem?_eq_none (by simp)]
  have la := hl 0 a h0
  have lb := hl 1 b h1
  have lc := hl 2 c h2
  show _ = WideF.cmpI (S [a, b, c] 3) 0
  rw [S_three la lb lc]
  refine KernC.tz_yes ?_
  unfold lie at la lb lc
  rw [la, lb, lc]; rfl
theorem turn_p (a b c : Pn) (w : World) : Calls Try.prog 7 #[.agg (pc a).toArray, .agg (pc b).toArray, .agg (pc c).toArray] w fun e w' => e = .returned (.int .i64 (tz a.2.1 a.2.2 b.2.1 b.2.2 c.2.1 c.2.2)) ∧ Fr Nil w w' :=
  KernC.Turn_any a.1 a.2.1 a.2.2 b.1 b.2.1 b.2.2 c.1 c.2.1 c.2.2 w
/-- behind so many rounds -/
def LAt (w6 : World) (gw g5 : Nat) (H L : Int) (l : List Pn) (i : Value) (wr : World) : Prop := ∃ k : Nat, k ≤ l.length ∧ i = .int .i64 k ∧ Bk wr gw 40 #[.int .i64 H, .int .u64 L] ∧ Bk wr g5 44 (dcells (S l k)) ∧ Fr Nil w6 wr ∧ ∀ (j : Nat) p, j < k → l[j]? = some p → lie p = true

set_option maxRecDepth 100000 in
set_option maxHeartbeats 16000000 in
theorem areas_any (l0 : List Pn) (v : Value) (w : World) (hv : Come EPt w v l0) :
    Calls Try.prog 6 #[v] w fun e w' => e = .returned (.bool true) ∧ Fr Nil w w' := by
  have kl := fun W => WideC.long_any 0 W (by omega) (by omega)
  have KLD := Lib.hid kl
  simp only [WideR.dcells_zero] at kl
  have KL := Lib.hid kl
  have KV := Lib.hid (fun W => KernG.lives_any W)
  clear kl
  go_enter Try.func6, Try.ntmps6
  have key : (20 < l0.length ∧ ∃ a cap, v = .slice (some a) l0.length cap ∧ l0.length ≤ cap ∧ Come EPt w (.slice (some a) 20 cap) (l0.take 20)) ∨ (¬ 20 < l0.length ∧ ∃ A c, v = .slice A l0.length c) := by
    by_cases h : 20 < l0.length
    · rcases hv with ⟨rfl, rfl⟩ | ⟨a, cap, rfl, hc, hr⟩
      · simp at h
      exact Or.inl ⟨h, a, cap, rfl, hc, Come.take EPt_ok (Or.inr ⟨a, cap, rfl, hc, hr⟩) 20 (by omega)⟩
    · exact Or.inr ⟨h, hv.shape⟩
  rcases key with ⟨h, a, cap, rfl, hc, ht⟩ | ⟨h, A, c, rfl⟩
  · have h' : (20 : Int) < l0.length := by omega
    have hc' : (20 : Int) ≤ cap := by omega
    have h0 : (0 : Int) ≤ cap := by omega
    have HV := Lib.hid ht
    obtain ⟨l, hl⟩ : ∃ l, l0.take 20 = l := ⟨_, rfl⟩
    have HL := Lib.hid (show l.length ≤ 20 by rw [← hl]; simp; omega)
    rw [hl] at HV
    clear ht hv hl
    go_upto_region 3 with fail
    generalize Value.slice (some a) 20 cap = u at *
    clear hc h' hc' h0 h
    go_wp2_with (first
      | (at_builtin; refine wpList_app EPt_ok rfl (.tmp 15) (.tmp 16) 37 rfl rfl w.heap.size _ _ [] l rfl (Own.made (Nat.le_refl _) rfl) rfl (HV.out.fr ((Fr.refl Nil w).alloc _)) (by have := HL.out; simp; omega) (by simp) ?_; intro v3 w3 o1 o2 o3 o4; rw [List.nil_append] at o1; have HF3 := Lib.hid (show Fr Nil w w3 from ((Fr.refl Nil w).alloc (.cells #[] 23)).then o2 (fun i hi hlt => by have := of_made hi; omega)); have HO3 := Lib.hid (o1.sl EPt_ok); obtain ⟨A3, c3, rfl⟩ := (o1.sl EPt_ok).shape; clear o1 o2 o3 o4)
      | (at_builtin; refine wpList_app EPt_ok rfl (.tmp 19) (.tmp 20) 37 rfl rfl w3.heap.size _ _ [] l rfl (Own.made (Nat.le_refl _) rfl) rfl (HO3.out.come.fr ((Fr.refl Nil w3).alloc _)) (by have := HL.out; simp; omega) (by simp) ?_; intro v4 w4 o1 o2 o3 o4; rw [List.nil_append] at o1; have HF4 := Lib.hid (show Fr Nil w3 w4 from ((Fr.refl Nil w3).alloc (.cells #[] 23)).then o2 (fun i hi hlt => by have := of_made hi; omega)); have HO4 := Lib.hid (o1.sl EPt_ok); obtain ⟨A4, c4, rfl⟩ := (o1.sl EPt_ok).shape; clear o1 o2 o3 o4))
    refine (area_any l _ w4 HL.out HO4.out).mono ?_
    rintro e w5 ⟨n, b, rfl, hf5, hres⟩
    have HF5 := Lib.hid ((HF3.out.trans HF4.out).trans hf5)
    have HV5 := Lib.hid (HO3.out.fr (HF4.out.trans hf5))
    have HR := Lib.hid hres
    clear hf5 hres HO4 HF4 HV
    obtain ⟨H, hH⟩ : ∃ H, n / 18446744073709551616 = H := ⟨_, rfl⟩
    obtain ⟨L, hL⟩ : ∃ L, n % 18446744073709551616 = L := ⟨_, rfl⟩
    unfold wcs
    rw [hH, hL]
    have HH := Lib.hid hH
    have HL' := Lib.hid hL
    clear hH hL
    go_wp2_with fail
    refine (KL.out _).mono ?_
    rintro e w6 ⟨rfl, hf6⟩
    have HN := Lib.hid (show Bk (w6.alloc (.cells #[.int .u64 0, .int .u64 0, .int .u64 0, .int .u64 0, .int .u64 0, .int .u64 0, .int .u64 0, .int .u64 0, .int .u64 0] 44)) w6.heap.size 44 (dcells 0) by rw [WideR.dcells_zero]; exact Bk.new _ _ _)
    have HBw := Lib.hid ((Bk.new w5 40 #[.int .i64 H, .int .u64 L]).fr hf6 id)
    have HF6 := Lib.hid ((HF5.out.alloc (.cells #[.int .i64 H, .int .u64 L] 40)).trans hf6)
    have HV6 := Lib.hid (HV5.out.fr (((Fr.refl Nil w5).alloc (.cells #[.int .i64 H, .int .u64 L] 40)).trans hf6))
    have hw5 : w5.heap.size < w6.heap.size := HBw.out.lt
    clear hf6 HF5 HV5
    go_wp2_with fail
    go_loopw [6] (fun i wr => LAt w6 w5.heap.size w6.heap.size H L l i wr) (fun i _ => l.length - (intOf i).toNat)
    case atStart => exact ⟨0, by omega, rfl, HBw.out.alloc _, HN.out, (Fr.refl Nil w6).alloc _, fun j p h => absurd h (by omega)⟩
    case round =>
      obtain ⟨k, hk, rfl, hb1, hb2, hf, hlie⟩ := hrel
      have hl20 := HL.out
      have hl20' : (l.length : Int) ≤ 20 := by omega
      by_cases hlt : k < l.length
      · obtain ⟨p, hp⟩ : ∃ p, l[k]? = some p := ⟨l[k], List.getElem?_eq_getElem hlt⟩
        obtain ⟨p0, hp0⟩ : ∃ p, l[0]? = some p := ⟨l[0], List.getElem?_eq_getElem (by omega)⟩
        rcases HV6.out with ⟨_, h0⟩ | ⟨g, o, cap, hve, hc, ha, hr⟩
        · subst h0; simp at hlt
        simp only [Value.slice.injEq, true_and] at hve
        obtain ⟨rfl, rfl⟩ := hve
        have HP := Lib.hid (fun W (h : Fr Nil w6 W) => pt_at (hr.fr h ha id) hp)
        have HP0 := Lib.hid (fun W (h : Fr Nil w6 W) => pt_at (hr.fr h ha id) hp0)
        have HFr := Lib.hid hf
        have HB1 := Lib.hid hb1
        have HB5 := Lib.hid hb2
        have HI := Lib.hid hlie
        have hk' : (k : Int) < l.length := by omega
        have hl0 : (0 : Int) < l.length := by omega
        have hg1 : w5.heap.size < wr.heap.size := hb1.lt
        have hg2 : w6.heap.size < wr.heap.size := hb2.lt
        have HGr := Lib.hid (Nat.lt_of_lt_of_le ha hf.size)
        have KP := Lib.hid (fun W => rl_any p W)
        obtain ⟨c0, c1, c2⟩ := HP.out _ HFr.out
        clear hf hb1 hb2 hlie
        rcases hz : lie p with _ | _
        · simp only [hz] at KP
          have hR := HR.out
          rcases hR with ⟨_, _, ha'⟩ | ⟨rfl, rfl, _⟩
          · exact absurd (ha' p (List.mem_of_getElem? hp)) (by rw [hz]; simp)
          obtain rfl : (0 : Int) = H := HH.out
          obtain rfl : (0 : Int) = L := HL'.out
          clear HR HH HL' hz
          go_wp2_with fail
          refine (KP.out _).mono ?_
          rintro e w8 ⟨rfl, hf8⟩
          obtain ⟨y0, y1, f0, f1⟩ := (HB1.out.fr hf8 id).c2
          have HF8 := Lib.hid (HF6.out.trans (HFr.out.trans hf8))
          clear hf8 c0 c1 c2
          go_wp2_with fail
          refine (KV.out _).mono ?_
          rintro e w9 ⟨rfl, hf9⟩
          go_wp2_with fail
          exact bodyPost_ret (v := .bool true) (by simp [results, Try.results6, go_sem]) rfl ⟨rfl, HF8.out.trans hf9⟩
        · have HZ := Lib.hid hz
          have HIk := Lib.hid (show ∀ (j : Nat) p, j < k + 1 → l[j]? = some p → lie p = true from fun j x hj hx => by
            rcases Nat.lt_or_ge j k with h | h
            · exact HI.out j x h hx
            · obtain rfl : j = k := by omega
              rw [hp] at hx
              obtain rfl := Option.some.inj hx
              exact hz)
          simp only [hz] at KP
          clear hz
          go_wp2_with fail
          refine (KP.out _).mono ?_
          rintro e w8 ⟨rfl, hf8⟩
          have HF8 := Lib.hid (HFr.out.trans hf8)
          have HB18 := Lib.hid (HB1.out.fr hf8 id)
          have HB58 := Lib.hid (HB5.out.fr hf8 id)
          have hg18 : w5.heap.size < w8.heap.size := HB18.out.lt
          have hg28 : w6.heap.size < w8.heap.size := HB58.out.lt
          have hgg : g < w8.heap.size := Nat.lt_of_lt_of_le HGr.out hf8.size
          obtain ⟨x0, x1, x2⟩ := HP0.out _ HF8.out
          rw [Nat.zero_mul, Nat.add_zero] at x0 x1 x2
          have HN8 := Lib.hid (Bk.new w8 23 #[.int .i64 p0.1, .int .i64 p0.2.1, .int .i64 p0.2.2])
          have HA8 := Lib.hid ((Fr.refl Nil w8).alloc (.cells #[.int .i64 p0.1, .int .i64 p0.2.1, .int .i64 p0.2.2] 23))
          clear hf8 c0 c1 c2 HFr HB1 HB5
          by_cases hn : k + 1 < l.length
          · obtain ⟨q, hq⟩ : ∃ p, l[k + 1]? = some p := ⟨l[k + 1], List.getElem?_eq_getElem hn⟩
            have HQ := Lib.hid (show l[nxi l.length k]? = some q by unfold nxi; rw [if_pos hn]; exact hq)
            have hn' : (k : Int) + 1 < l.length := by omega
            obtain ⟨y0, y1, y2⟩ := pt_at (hr.fr (HF8.out.trans HA8.out) ha id) hq
            go_upto_region 14 with fail
            have HB9 := Lib.hid (Bk.new w8 23 #[.int .i64 q.1, .int .i64 q.2.1, .int .i64 q.2.2])
            have HF9 := Lib.hid ((Fr.refl Nil w8).alloc (.cells #[.int .i64 q.1, .int .i64 q.2.1, .int .i64 q.2.2] 23))
            generalize w8.alloc (.cells #[.int .i64 q.1, .int .i64 q.2.1, .int .i64 q.2.2] 23) = w9 at *
            clear x0 x1 x2 y0 y1 y2
            have KQ := Lib.hid (fun W => rl_any q W)
            have HB19 := Lib.hid (HB18.out.fr HF9.out id)
            have HB59 := Lib.hid (HB58.out.fr HF9.out id)
            have HFr9 := Lib.hid (HF8.out.trans HF9.out)
            obtain ⟨b0, b1, b2, _, _, _⟩ := HB9.out.c3
            clear HB18 HB58 HF9 HF8 HN8 HA8
            rcases hzq : lie q with _ | _
            · have HS := Lib.hid (show S l (k + 1) = S l k by simp only [S]; rw [term_no hp HQ.out hzq]; omega)
              simp only [hzq] at KQ
              clear hzq
              go_wp2_with fail
              refine (KQ.out _).mono ?_
              rintro e wa ⟨rfl, hfa⟩
              have HB1a := Lib.hid (HB19.out.fr hfa id)
              have HB5a := Lib.hid (HB59.out.fr hfa id)
              have HFa := Lib.hid (HFr9.out.trans hfa)
              clear hfa b0 b1 b2
              go_wp2_with fail
              go_roundw
              case rel => exact ⟨k + 1, by omega, by go_num, HB1a.out, by rw [HS.out]; exact HB5a.out, HFa.out, HIk.out⟩
              case measure => simp [intOf]; omega
            · have HT := Lib.hid (show S l (k + 1) = S l k + tr p q by simp only [S]; rw [term_yes hp HQ.out hzq])
              have KX := Lib.hid (fun W => rcross_pq HZ.out hzq W)
              have KA := Lib.hid (fun W => WideD.add_any (S l k) (tr p q) W)
              simp only [hzq] at KQ
              clear hzq
              go_wp2_with fail
              refine (KQ.out _).mono ?_
              rintro e wa ⟨rfl, hfa⟩
              have HB1a := Lib.hid (HB19.out.fr hfa id)
              have HB5a := Lib.hid (HB59.out.fr hfa id)
              have HB9a := Lib.hid (HB9.out.fr hfa id)
              have HFa := Lib.hid (HFr9.out.trans hfa)
              have hg1a : w5.heap.size < wa.heap.size := HB1a.out.lt
              have hg2a : w6.heap.size < wa.heap.size := HB5a.out.lt
              have HWA := Lib.hid (show w8.heap.size < wa.heap.size from HB9a.out.lt)
              have HGA := Lib.hid (Nat.lt_of_lt_of_le hgg (Nat.le_of_lt HWA.out))
              have hgne : g ≠ w6.heap.size := by omega
              clear hfa b0 b1 b2
              generalize S l k = sn at *
              generalize tr p q = tn at *
              go_upto_region 15 with fail
              have KS := Lib.hid (fun W (h : Fr Nil wa W) => (show (W.cell? ⟨g, o + k * 3 + 1, none⟩ = some (.int .i64 p.2.1) ∧ W.cell? ⟨g, o + k * 3 + 2, none⟩ = some (.int .i64 p.2.2)) ∧ Bk W w8.heap.size 23 #[.int .i64 q.1, .int .i64 q.2.1, .int .i64 q.2.2] from ⟨(HP.out _ (HFa.out.trans h)).2, HB9a.out.fr h id⟩))
              refine wp_region_held (S := fun w' => (w'.cell? ⟨g, o + k * 3 + 1, none⟩ = some (.int .i64 p.2.1) ∧ w'.cell? ⟨g, o + k * 3 + 2, none⟩ = some (.int .i64 p.2.2)) ∧ Bk w' w8.heap.size 23 #[.int .i64 q.1, .int .i64 q.2.1, .int .i64 q.2.2]) (by kernel_rfl) ?_
              have fz0 : Fr Nil wa wa.drew := (Fr.refl Nil wa).drew
              change wpAnyH _ _ _ _ _ _ _ _ (World.drew _)
              refine wpAnyH_take (i := 1) (v := .slice (some ⟨g, o, none⟩) l.length c3) rfl (by kernel_rfl) (by kernel_rfl) (by kernel_rfl) (fun _ _ _ h => h) (Or.inl ⟨by rfl, fun w' hw' => by first | (go_simp; done) | (go_simp; rfl)⟩) (KS.out _ fz0) ?_
              (try simp only [Act.put, List.getElem_toArray, List.getElem_cons_zero, List.getElem_cons_succ, List.setIfInBounds_toArray, List.set_cons_zero, List.set_cons_succ])
              refine wpAnyH_take (i := 2) (v := .int .i64 k) rfl (by kernel_rfl) (by kernel_rfl) (by kernel_rfl) (fun _ _ _ h => h) (Or.inl ⟨by rfl, fun w' hw' => by first | (go_simp; done) | (go_simp; rfl)⟩) (KS.out _ fz0) ?_
              (try simp only [Act.put, List.getElem_toArray, List.getElem_cons_zero, List.getElem_cons_succ, List.setIfInBounds_toArray, List.set_cons_zero, List.set_cons_succ])
              refine wpAnyH_take (i := 3) (v := .pointer (some ⟨g, o + k * 3, none⟩)) rfl (by kernel_rfl) (by kernel_rfl) (by kernel_rfl) (fun _ _ _ h => h) (Or.inl ⟨by rfl, fun w' hw' => by first | (go_simp; done) | (go_simp; rfl)⟩) (KS.out _ fz0) ?_
              (try simp only [Act.put, List.getElem_toArray, List.getElem_cons_zero, List.getElem_cons_succ, List.setIfInBounds_toArray, List.set_cons_zero, List.set_cons_succ])
              refine wpAnyH_take (i := 4) (v := .pointer (some ⟨g, o + k * 3 + 1, none⟩)) rfl (by kernel_rfl) (by kernel_rfl) (by kernel_rfl) (fun _ _ _ h => h) (Or.inl ⟨by rfl, fun w' hw' => by first | (go_simp; done) | (go_simp; rfl)⟩) (KS.out _ fz0) ?_
              (try simp only [Act.put, List.getElem_toArray, List.getElem_cons_zero, List.getElem_cons_succ, List.setIfInBounds_toArray, List.set_cons_zero, List.set_cons_succ])
              refine wpAnyH_take (i := 5) (v := .int .i64 p.2.1) rfl (by kernel_rfl) (by kernel_rfl) (by kernel_rfl) (fun _ _ _ h => h) (Or.inl ⟨by rfl, fun w' hw' => by obtain ⟨z1, z2⟩ := hw'.1; first | (go_simp; done) | (go_simp; rfl)⟩) (KS.out _ fz0) ?_
              (try simp only [Act.put, List.getElem_toArray, List.getElem_cons_zero, List.getElem_cons_succ, List.setIfInBounds_toArray, List.set_cons_zero, List.set_cons_succ])
              refine wpAnyH_take (i := 6) (v := .pointer (some ⟨w8.heap.size, 2, none⟩)) rfl (by kernel_rfl) (by kernel_rfl) (by kernel_rfl) (fun _ _ _ h => h) (Or.inl ⟨by rfl, fun w' hw' => by first | (go_simp; done) | (go_simp; rfl)⟩) (KS.out _ fz0) ?_
              (try simp only [Act.put, List.getElem_toArray, List.getElem_cons_zero, List.getElem_cons_succ, List.setIfInBounds_toArray, List.set_cons_zero, List.set_cons_succ])
              refine wpAnyH_take (i := 7) (v := .int .i64 q.2.2) rfl (by kernel_rfl) (by kernel_rfl) (by kernel_rfl) (fun _ _ _ h => h) (Or.inl ⟨by rfl, fun w' hw' => by obtain ⟨z0, z1, z2, _⟩ := hw'.2.c3; first | (go_simp; done) | (go_simp; rfl)⟩) (KS.out _ fz0) ?_
              (try simp only [Act.put, List.getElem_toArray, List.getElem_cons_zero, List.getElem_cons_succ, List.setIfInBounds_toArray, List.set_cons_zero, List.set_cons_succ])
              refine wpAnyH_take (i := 8) (v := .pointer (some ⟨w8.heap.size, 1, none⟩)) rfl (by kernel_rfl) (by kernel_rfl) (by kernel_rfl) (fun _ _ _ h => h) (Or.inl ⟨by rfl, fun w' hw' => by first | (go_simp; done) | (go_simp; rfl)⟩) (KS.out _ fz0) ?_
              (try simp only [Act.put, List.getElem_toArray, List.getElem_cons_zero, List.getElem_cons_succ, List.setIfInBounds_toArray, List.set_cons_zero, List.set_cons_succ])
              refine wpAnyH_take (i := 9) (v := .int .i64 q.2.1) rfl (by kernel_rfl) (by kernel_rfl) (by kernel_rfl) (fun _ _ _ h => h) (Or.inl ⟨by rfl, fun w' hw' => by obtain ⟨z0, z1, z2, _⟩ := hw'.2.c3; first | (go_simp; done) | (go_simp; rfl)⟩) (KS.out _ fz0) ?_
              (try simp only [Act.put, List.getElem_toArray, List.getElem_cons_zero, List.getElem_cons_succ, List.setIfInBounds_toArray, List.set_cons_zero, List.set_cons_succ])
              refine wpAnyH_take (i := 10) (v := .slice (some ⟨g, o, none⟩) l.length c3) rfl (by kernel_rfl) (by kernel_rfl) (by kernel_rfl) (fun _ _ _ h => h) (Or.inl ⟨by rfl, fun w' hw' => by first | (go_simp; done) | (go_simp; rfl)⟩) (KS.out _ fz0) ?_
              (try simp only [Act.put, List.getElem_toArray, List.getElem_cons_zero, List.getElem_cons_succ, List.setIfInBounds_toArray, List.set_cons_zero, List.set_cons_succ])
              refine wpAnyH_take (i := 11) (v := .int .i64 k) rfl (by kernel_rfl) (by kernel_rfl) (by kernel_rfl) (fun _ _ _ h => h) (Or.inl ⟨by rfl, fun w' hw' => by first | (go_simp; done) | (go_simp; rfl)⟩) (KS.out _ fz0) ?_
              (try simp only [Act.put, List.getElem_toArray, List.getElem_cons_zero, List.getElem_cons_succ, List.setIfInBounds_toArray, List.set_cons_zero, List.set_cons_succ])
              refine wpAnyH_take (i := 12) (v := .pointer (some ⟨g, o + k * 3, none⟩)) rfl (by kernel_rfl) (by kernel_rfl) (by kernel_rfl) (fun _ _ _ h => h) (Or.inl ⟨by rfl, fun w' hw' => by first | (go_simp; done) | (go_simp; rfl)⟩) (KS.out _ fz0) ?_
              (try simp only [Act.put, List.getElem_toArray, List.getElem_cons_zero, List.getElem_cons_succ, List.setIfInBounds_toArray, List.set_cons_zero, List.set_cons_succ])
              refine wpAnyH_take (i := 13) (v := .pointer (some ⟨g, o + k * 3 + 2, none⟩)) rfl (by kernel_rfl) (by kernel_rfl) (by kernel_rfl) (fun _ _ _ h => h) (Or.inl ⟨by rfl, fun w' hw' => by first | (go_simp; done) | (go_simp; rfl)⟩) (KS.out _ fz0) ?_
              (try simp only [Act.put, List.getElem_toArray, List.getElem_cons_zero, List.getElem_cons_succ, List.setIfInBounds_toArray, List.set_cons_zero, List.set_cons_succ])
              refine wpAnyH_take (i := 14) (v := .int .i64 p.2.2) rfl (by kernel_rfl) (by kernel_rfl) (by kernel_rfl) (fun _ _ _ h => h) (Or.inl ⟨by rfl, fun w' hw' => by obtain ⟨z1, z2⟩ := hw'.1; first | (go_simp; done) | (go_simp; rfl)⟩) (KS.out _ fz0) ?_
              (try simp only [Act.put, List.getElem_toArray, List.getElem_cons_zero, List.getElem_cons_succ, List.setIfInBounds_toArray, List.set_cons_zero, List.set_cons_succ])
              refine wpAnyH_all (rs := [0, 15]) (by kernel_rfl) (by simp) (fun i hi => ?_)
              rcases (show i = 0 ∨ i = 15 by simpa using hi) with rfl | rfl
              · refine wpOp_loadT (n := 9) rfl rfl digits_row (HB5a.out.fr fz0 id) rfl ?_
                refine ⟨(KS.out _ fz0), ?_⟩
                clear hi
                (try simp only [Act.put, List.getElem_toArray, List.getElem_cons_zero, List.getElem_cons_succ, List.setIfInBounds_toArray, List.set_cons_zero, List.set_cons_succ])
                refine wpAnyH_all (rs := [15]) (by kernel_rfl) (by simp) (fun i hi => ?_)
                obtain rfl : i = 15 := by simpa using hi
                refine wpOp_step rfl (fun K hK => ?_)
                go_simp
                refine (KX.out _).mono ?_
                rintro e wz1 ⟨rfl, hfz1⟩
                have fz1 : Fr Nil _ _ := fz0.trans hfz1
                refine hK _ _ ⟨(KS.out _ fz1), ?_⟩
                clear hK K hi
                (try simp only [Act.put, List.getElem_toArray, List.getElem_cons_zero, List.getElem_cons_succ, List.setIfInBounds_toArray, List.set_cons_zero, List.set_cons_succ])
                refine wpAnyH_all (rs := [16]) (by kernel_rfl) (by simp) (fun i hi => ?_)
                obtain rfl : i = 16 := by simpa using hi
                refine wpOp_step rfl (fun K hK => ?_)
                go_simp
                refine (KA.out _).mono ?_
                rintro e wz2 ⟨rfl, hfz2⟩
                have fz2 : Fr Nil _ _ := fz1.trans hfz2
                refine hK _ _ ⟨(KS.out _ fz2), ?_⟩
                clear hK K hi
                (try simp only [Act.put, List.getElem_toArray, List.getElem_cons_zero, List.getElem_cons_succ, List.setIfInBounds_toArray, List.set_cons_zero, List.set_cons_succ])
                refine wpAnyH_all (rs := [17]) (by kernel_rfl) (by simp) (fun i hi => ?_)
                obtain rfl : i = 17 := by simpa using hi
                refine wpOp_storeT (n := 9) rfl rfl rfl digits_row (HB5a.out.fr fz2 id) rfl rfl (dcells_one _) ?_
                intro ws hbs hfs
                have HWs := Lib.hid (show g < wa.heap.size ∧ w8.heap.size ≠ w6.heap.size from ⟨HGA.out, by omega⟩)
                refine ⟨⟨⟨(hfs.cell (p := ⟨g, _, none⟩) (Nat.lt_of_lt_of_le HGA.out fz2.size) hgne).trans (KS.out _ fz2).1.1, (hfs.cell (p := ⟨g, _, none⟩) (Nat.lt_of_lt_of_le HGA.out fz2.size) hgne).trans (KS.out _ fz2).1.2⟩, (KS.out _ fz2).2.fr hfs HWs.out.2⟩, ?_⟩
                have HBs := Lib.hid hbs
                have HB1s := Lib.hid ((HB1a.out.fr fz2 id).fr hfs (by omega))
                have HFs := Lib.hid (Fr.then (HFa.out.trans fz2) hfs (fun k hk hlt => by omega))
                clear hbs hfs hi
                (try simp only [Act.put, List.getElem_toArray, List.getElem_cons_zero, List.getElem_cons_succ, List.setIfInBounds_toArray, List.set_cons_zero, List.set_cons_succ])
                refine wpAnyH_done (by kernel_rfl) ?_ _
                go_wp2_with fail
                go_roundw
                case rel => exact ⟨k + 1, by omega, by go_num, HB1s.out, by rw [HT.out]; exact HBs.out, HFs.out, HIk.out⟩
                case measure => simp [intOf]; omega
              · refine wpOp_step rfl (fun K hK => ?_)
                go_simp
                refine (KX.out _).mono ?_
                rintro e wz1 ⟨rfl, hfz1⟩
                have fz1 : Fr Nil _ _ := fz0.trans hfz1
                refine hK _ _ ⟨(KS.out _ fz1), ?_⟩
                clear hK K hi
                (try simp only [Act.put, List.getElem_toArray, List.getElem_cons_zero, List.getElem_cons_succ, List.setIfInBounds_toArray, List.set_cons_zero, List.set_cons_succ])
                refine wpAnyH_all (rs := [0]) (by kernel_rfl) (by simp) (fun i hi => ?_)
                obtain rfl : i = 0 := by simpa using hi
                refine wpOp_loadT (n := 9) rfl rfl digits_row (HB5a.out.fr fz1 id) rfl ?_
                refine ⟨(KS.out _ fz1), ?_⟩
                clear hi
                (try simp only [Act.put, List.getElem_toArray, List.getElem_cons_zero, List.getElem_cons_succ, List.setIfInBounds_toArray, List.set_cons_zero, List.set_cons_succ])
                refine wpAnyH_all (rs := [16]) (by kernel_rfl) (by simp) (fun i hi => ?_)
                obtain rfl : i = 16 := by simpa using hi
                refine wpOp_step rfl (fun K hK => ?_)
                go_simp
                refine (KA.out _).mono ?_
                rintro e wz2 ⟨rfl, hfz2⟩
                have fz2 : Fr Nil _ _ := fz1.trans hfz2
                refine hK _ _ ⟨(KS.out _ fz2), ?_⟩
                clear hK K hi
                (try simp only [Act.put, List.getElem_toArray, List.getElem_cons_zero, List.getElem_cons_succ, List.setIfInBounds_toArray, List.set_cons_zero, List.set_cons_succ])
                refine wpAnyH_all (rs := [17]) (by kernel_rfl) (by simp) (fun i hi => ?_)
                obtain rfl : i = 17 := by simpa using hi
                refine wpOp_storeT (n := 9) rfl rfl rfl digits_row (HB5a.out.fr fz2 id) rfl rfl (dcells_one _) ?_
                intro ws hbs hfs
                have HWs := Lib.hid (show g < wa.heap.size ∧ w8.heap.size ≠ w6.heap.size from ⟨HGA.out, by omega⟩)
                refine ⟨⟨⟨(hfs.cell (p := ⟨g, _, none⟩) (Nat.lt_of_lt_of_le HGA.out fz2.size) hgne).trans (KS.out _ fz2).1.1, (hfs.cell (p := ⟨g, _, none⟩) (Nat.lt_of_lt_of_le HGA.out fz2.size) hgne).trans (KS.out _ fz2).1.2⟩, (KS.out _ fz2).2.fr hfs HWs.out.2⟩, ?_⟩
                have HBs := Lib.hid hbs
                have HB1s := Lib.hid ((HB1a.out.fr fz2 id).fr hfs (by omega))
                have HFs := Lib.hid (Fr.then (HFa.out.trans fz2) hfs (fun k hk hlt => by omega))
                clear hbs hfs hi
                (try simp only [Act.put, List.getElem_toArray, List.getElem_cons_zero, List.getElem_cons_succ, List.setIfInBounds_toArray, List.set_cons_zero, List.set_cons_succ])
                refine wpAnyH_done (by kernel_rfl) ?_ _
                go_wp2_with fail
                go_roundw
                case rel => exact ⟨k + 1, by omega, by go_num, HB1s.out, by rw [HT.out]; exact HBs.out, HFs.out, HIk.out⟩
                case measure => simp [intOf]; omega
          · have HQ := Lib.hid (show l[nxi l.length k]? = some p0 by unfold nxi; rw [if_neg hn]; exact hp0)
            have hn' : ¬ (k : Int) + 1 < l.length := by omega
            obtain ⟨q, hq⟩ : ∃ q, q = p0 := ⟨_, rfl⟩
            go_upto_region 14 with fail
            rw [← hq] at HQ HN8 HA8 ⊢
            generalize hw9 : w8.alloc (.cells #[.int .i64 q.1, .int .i64 q.2.1, .int .i64 q.2.2] 23) = w9 at *
            have HB9 := Lib.hid HN8.out
            have HF9 := Lib.hid HA8.out
            clear hq hw9 x0 x1 x2 HP0 hp0
            have KQ := Lib.hid (fun W => rl_any q W)
            have HB19 := Lib.hid (HB18.out.fr HF9.out id)
            have HB59 := Lib.hid (HB58.out.fr HF9.out id)
            have HFr9 := Lib.hid (HF8.out.trans HF9.out)
            obtain ⟨b0, b1, b2, _, _, _⟩ := HB9.out.c3
            clear HB18 HB58 HF9 HF8 HN8 HA8
            rcases hzq : lie q with _ | _
            · have HS := Lib.hid (show S l (k + 1) = S l k by simp only [S]; rw [term_no hp HQ.out hzq]; omega)
              simp only [hzq] at KQ
              clear hzq
              go_wp2_with fail
              refine (KQ.out _).mono ?_
              rintro e wa ⟨rfl, hfa⟩
              have HB1a := Lib.hid (HB19.out.fr hfa id)
              have HB5a := Lib.hid (HB59.out.fr hfa id)
              have HFa := Lib.hid (HFr9.out.trans hfa)
              clear hfa b0 b1 b2
              go_wp2_with fail
              go_roundw
              case rel => exact ⟨k + 1, by omega, by go_num, HB1a.out, by rw [HS.out]; exact HB5a.out, HFa.out, HIk.out⟩
              case measure => simp [intOf]; omega
            · have HT := Lib.hid (show S l (k + 1) = S l k + tr p q by simp only [S]; rw [term_yes hp HQ.out hzq])
              have KX := Lib.hid (fun W => rcross_pq HZ.out hzq W)
              have KA := Lib.hid (fun W => WideD.add_any (S l k) (tr p q) W)
              simp only [hzq] at KQ
              clear hzq
              go_wp2_with fail
              refine (KQ.out _).mono ?_
              rintro e wa ⟨rfl, hfa⟩
              have HB1a := Lib.hid (HB19.out.fr hfa id)
              have HB5a := Lib.hid (HB59.out.fr hfa id)
              have HB9a := Lib.hid (HB9.out.fr hfa id)
              have HFa := Lib.hid (HFr9.out.trans hfa)
              have hg1a : w5.heap.size < wa.heap.size := HB1a.out.lt
              have hg2a : w6.heap.size < wa.heap.size := HB5a.out.lt
              have HWA := Lib.hid (show w8.heap.size < wa.heap.size from HB9a.out.lt)
              have HGA := Lib.hid (Nat.lt_of_lt_of_le hgg (Nat.le_of_lt HWA.out))
              have hgne : g ≠ w6.heap.size := by omega
              clear hfa b0 b1 b2
              generalize S l k = sn at *
              generalize tr p q = tn at *
              go_upto_region 15 with fail
              have KS := Lib.hid (fun W (h : Fr Nil wa W) => (show (W.cell? ⟨g, o + k * 3 + 1, none⟩ = some (.int .i64 p.2.1) ∧ W.cell? ⟨g, o + k * 3 + 2, none⟩ = some (.int .i64 p.2.2)) ∧ Bk W w8.heap.size 23 #[.int .i64 q.1, .int .i64 q.2.1, .int .i64 q.2.2] from ⟨(HP.out _ (HFa.out.trans h)).2, HB9a.out.fr h id⟩))
              refine wp_region_held (S := fun w' => (w'.cell? ⟨g, o + k * 3 + 1, none⟩ = some (.int .i64 p.2.1) ∧ w'.cell? ⟨g, o + k * 3 + 2, none⟩ = some (.int .i64 p.2.2)) ∧ Bk w' w8.heap.size 23 #[.int .i64 q.1, .int .i64 q.2.1, .int .i64 q.2.2]) (by kernel_rfl) ?_
              have fz0 : Fr Nil wa wa.drew := (Fr.refl Nil wa).drew
              change wpAnyH _ _ _ _ _ _ _ _ (World.drew _)
              refine wpAnyH_take (i := 1) (v := .slice (some ⟨g, o, none⟩) l.length c3) rfl (by kernel_rfl) (by kernel_rfl) (by kernel_rfl) (fun _ _ _ h => h) (Or.inl ⟨by rfl, fun w' hw' => by first | (go_simp; done) | (go_simp; rfl)⟩) (KS.out _ fz0) ?_
              (try simp only [Act.put, List.getElem_toArray, List.getElem_cons_zero, List.getElem_cons_succ, List.setIfInBounds_toArray, List.set_cons_zero, List.set_cons_succ])
              refine wpAnyH_take (i := 2) (v := .int .i64 k) rfl (by kernel_rfl) (by kernel_rfl) (by kernel_rfl) (fun _ _ _ h => h) (Or.inl ⟨by rfl, fun w' hw' => by first | (go_simp; done) | (go_simp; rfl)⟩) (KS.out _ fz0) ?_
              (try simp only [Act.put, List.getElem_toArray, List.getElem_cons_zero, List.getElem_cons_succ, List.setIfInBounds_toArray, List.set_cons_zero, List.set_cons_succ])
              refine wpAnyH_take (i := 3) (v := .pointer (some ⟨g, o + k * 3, none⟩)) rfl (by kernel_rfl) (by kernel_rfl) (by kernel_rfl) (fun _ _ _ h => h) (Or.inl ⟨by rfl, fun w' hw' => by first | (go_simp; done) | (go_simp; rfl)⟩) (KS.out _ fz0) ?_
              (try simp only [Act.put, List.getElem_toArray, List.getElem_cons_zero, List.getElem_cons_succ, List.setIfInBounds_toArray, List.set_cons_zero, List.set_cons_succ])
              refine wpAnyH_take (i := 4) (v := .pointer (some ⟨g, o + k * 3 + 1, none⟩)) rfl (by kernel_rfl) (by kernel_rfl) (by kernel_rfl) (fun _ _ _ h => h) (Or.inl ⟨by rfl, fun w' hw' => by first | (go_simp; done) | (go_simp; rfl)⟩) (KS.out _ fz0) ?_
              (try simp only [Act.put, List.getElem_toArray, List.getElem_cons_zero, List.getElem_cons_succ, List.setIfInBounds_toArray, List.set_cons_zero, List.set_cons_succ])
              refine wpAnyH_take (i := 5) (v := .int .i64 p.2.1) rfl (by kernel_rfl) (by kernel_rfl) (by kernel_rfl) (fun _ _ _ h => h) (Or.inl ⟨by rfl, fun w' hw' => by obtain ⟨z1, z2⟩ := hw'.1; first | (go_simp; done) | (go_simp; rfl)⟩) (KS.out _ fz0) ?_
              (try simp only [Act.put, List.getElem_toArray, List.getElem_cons_zero, List.getElem_cons_succ, List.setIfInBounds_toArray, List.set_cons_zero, List.set_cons_succ])
              refine wpAnyH_take (i := 6) (v := .pointer (some ⟨w8.heap.size, 2, none⟩)) rfl (by kernel_rfl) (by kernel_rfl) (by kernel_rfl) (fun _ _ _ h => h) (Or.inl ⟨by rfl, fun w' hw' => by first | (go_simp; done) | (go_simp; rfl)⟩) (KS.out _ fz0) ?_
              (try simp only [Act.put, List.getElem_toArray, List.getElem_cons_zero, List.getElem_cons_succ, List.setIfInBounds_toArray, List.set_cons_zero, List.set_cons_succ])
              refine wpAnyH_take (i := 7) (v := .int .i64 q.2.2) rfl (by kernel_rfl) (by kernel_rfl) (by kernel_rfl) (fun _ _ _ h => h) (Or.inl ⟨by rfl, fun w' hw' => by obtain ⟨z0, z1, z2, _⟩ := hw'.2.c3; first | (go_simp; done) | (go_simp; rfl)⟩) (KS.out _ fz0) ?_
              (try simp only [Act.put, List.getElem_toArray, List.getElem_cons_zero, List.getElem_cons_succ, List.setIfInBounds_toArray, List.set_cons_zero, List.set_cons_succ])
              refine wpAnyH_take (i := 8) (v := .pointer (some ⟨w8.heap.size, 1, none⟩)) rfl (by kernel_rfl) (by kernel_rfl) (by kernel_rfl) (fun _ _ _ h => h) (Or.inl ⟨by rfl, fun w' hw' => by first | (go_simp; done) | (go_simp; rfl)⟩) (KS.out _ fz0) ?_
              (try simp only [Act.put, List.getElem_toArray, List.getElem_cons_zero, List.getElem_cons_succ, List.setIfInBounds_toArray, List.set_cons_zero, List.set_cons_succ])
              refine wpAnyH_take (i := 9) (v := .int .i64 q.2.1) rfl (by kernel_rfl) (by kernel_rfl) (by kernel_rfl) (fun _ _ _ h => h) (Or.inl ⟨by rfl, fun w' hw' => by obtain ⟨z0, z1, z2, _⟩ := hw'.2.c3; first | (go_simp; done) | (go_simp; rfl)⟩) (KS.out _ fz0) ?_
              (try simp only [Act.put, List.getElem_toArray, List.getElem_cons_zero, List.getElem_cons_succ, List.setIfInBounds_toArray, List.set_cons_zero, List.set_cons_succ])
              refine wpAnyH_take (i := 10) (v := .slice (some ⟨g, o, none⟩) l.length c3) rfl (by kernel_rfl) (by kernel_rfl) (by kernel_rfl) (fun _ _ _ h => h) (Or.inl ⟨by rfl, fun w' hw' => by first | (go_simp; done) | (go_simp; rfl)⟩) (KS.out _ fz0) ?_
              (try simp only [Act.put, List.getElem_toArray, List.getElem_cons_zero, List.getElem_cons_succ, List.setIfInBounds_toArray, List.set_cons_zero, List.set_cons_succ])
              refine wpAnyH_take (i := 11) (v := .int .i64 k) rfl (by kernel_rfl) (by kernel_rfl) (by kernel_rfl) (fun _ _ _ h => h) (Or.inl ⟨by rfl, fun w' hw' => by first | (go_simp; done) | (go_simp; rfl)⟩) (KS.out _ fz0) ?_
              (try simp only [Act.put, List.getElem_toArray, List.getElem_cons_zero, List.getElem_cons_succ, List.setIfInBounds_toArray, List.set_cons_zero, List.set_cons_succ])
              refine wpAnyH_take (i := 12) (v := .pointer (some ⟨g, o + k * 3, none⟩)) rfl (by kernel_rfl) (by kernel_rfl) (by kernel_rfl) (fun _ _ _ h => h) (Or.inl ⟨by rfl, fun w' hw' => by first | (go_simp; done) | (go_simp; rfl)⟩) (KS.out _ fz0) ?_
              (try simp only [Act.put, List.getElem_toArray, List.getElem_cons_zero, List.getElem_cons_succ, List.setIfInBounds_toArray, List.set_cons_zero, List.set_cons_succ])
              refine wpAnyH_take (i := 13) (v := .pointer (some ⟨g, o + k * 3 + 2, none⟩)) rfl (by kernel_rfl) (by kernel_rfl) (by kernel_rfl) (fun _ _ _ h => h) (Or.inl ⟨by rfl, fun w' hw' => by first | (go_simp; done) | (go_simp; rfl)⟩) (KS.out _ fz0) ?_
              (try simp only [Act.put, List.getElem_toArray, List.getElem_cons_zero, List.getElem_cons_succ, List.setIfInBounds_toArray, List.set_cons_zero, List.set_cons_succ])
              refine wpAnyH_take (i := 14) (v := .int .i64 p.2.2) rfl (by kernel_rfl) (by kernel_rfl) (by kernel_rfl) (fun _ _ _ h => h) (Or.inl ⟨by rfl, fun w' hw' => by obtain ⟨z1, z2⟩ := hw'.1; first | (go_simp; done) | (go_simp; rfl)⟩) (KS.out _ fz0) ?_
              (try simp only [Act.put, List.getElem_toArray, List.getElem_cons_zero, List.getElem_cons_succ, List.setIfInBounds_toArray, List.set_cons_zero, List.set_cons_succ])
              refine wpAnyH_all (rs := [0, 15]) (by kernel_rfl) (by simp) (fun i hi => ?_)
              rcases (show i = 0 ∨ i = 15 by simpa using hi) with rfl | rfl
              · refine wpOp_loadT (n := 9) rfl rfl digits_row (HB5a.out.fr fz0 id) rfl ?_
                refine ⟨(KS.out _ fz0), ?_⟩
                clear hi
                (try simp only [Act.put, List.getElem_toArray, List.getElem_cons_zero, List.getElem_cons_succ, List.setIfInBounds_toArray, List.set_cons_zero, List.set_cons_succ])
                refine wpAnyH_all (rs := [15]) (by kernel_rfl) (by simp) (fun i hi => ?_)
                obtain rfl : i = 15 := by simpa using hi
                refine wpOp_step rfl (fun K hK => ?_)
                go_simp
                refine (KX.out _).mono ?_
                rintro e wz1 ⟨rfl, hfz1⟩
                have fz1 : Fr Nil _ _ := fz0.trans hfz1
                refine hK _ _ ⟨(KS.out _ fz1), ?_⟩
                clear hK K hi
                (try simp only [Act.put, List.getElem_toArray, List.getElem_cons_zero, List.getElem_cons_succ, List.setIfInBounds_toArray, List.set_cons_zero, List.set_cons_succ])
                refine wpAnyH_all (rs := [16]) (by kernel_rfl) (by simp) (fun i hi => ?_)
                obtain rfl : i = 16 := by simpa using hi
                refine wpOp_step rfl (fun K hK => ?_)
                go_simp
                refine (KA.out _).mono ?_
                rintro e wz2 ⟨rfl, hfz2⟩
                have fz2 : Fr Nil _ _ := fz1.trans hfz2
                refine hK _ _ ⟨(KS.out _ fz2), ?_⟩
                clear hK K hi
                (try simp only [Act.put, List.getElem_toArray, List.getElem_cons_zero, List.getElem_cons_succ, List.setIfInBounds_toArray, List.set_cons_zero, List.set_cons_succ])
                refine wpAnyH_all (rs := [17]) (by kernel_rfl) (by simp) (fun i hi => ?_)
                obtain rfl : i = 17 := by simpa using hi
                refine wpOp_storeT (n := 9) rfl rfl rfl digits_row (HB5a.out.fr fz2 id) rfl rfl (dcells_one _) ?_
                intro ws hbs hfs
                have HWs := Lib.hid (show g < wa.heap.size ∧ w8.heap.size ≠ w6.heap.size from ⟨HGA.out, by omega⟩)
                refine ⟨⟨⟨(hfs.cell (p := ⟨g, _, none⟩) (Nat.lt_of_lt_of_le HGA.out fz2.size) hgne).trans (KS.out _ fz2).1.1, (hfs.cell (p := ⟨g, _, none⟩) (Nat.lt_of_lt_of_le HGA.out fz2.size) hgne).trans (KS.out _ fz2).1.2⟩, (KS.out _ fz2).2.fr hfs HWs.out.2⟩, ?_⟩
                have HBs := Lib.hid hbs
                have HB1s := Lib.hid ((HB1a.out.fr fz2 id).fr hfs (by omega))
                have HFs := Lib.hid (Fr.then (HFa.out.trans fz2) hfs (fun k hk hlt => by omega))
                clear hbs hfs hi
                (try simp only [Act.put, List.getElem_toArray, List.getElem_cons_zero, List.getElem_cons_succ, List.setIfInBounds_toArray, List.set_cons_zero, List.set_cons_succ])
                refine wpAnyH_done (by kernel_rfl) ?_ _
                go_wp2_with fail
                go_roundw
                case rel => exact ⟨k + 1, by omega, by go_num, HB1s.out, by rw [HT.out]; exact HBs.out, HFs.out, HIk.out⟩
                case measure => simp [intOf]; omega
              · refine wpOp_step rfl (fun K hK => ?_)
                go_simp
                refine (KX.out _).mono ?_
                rintro e wz1 ⟨rfl, hfz1⟩
                have fz1 : Fr Nil _ _ := fz0.trans hfz1
                refine hK _ _ ⟨(KS.out _ fz1), ?_⟩
                clear hK K hi
                (try simp only [Act.put, List.getElem_toArray, List.getElem_cons_zero, List.getElem_cons_succ, List.setIfInBounds_toArray, List.set_cons_zero, List.set_cons_succ])
                refine wpAnyH_all (rs := [0]) (by kernel_rfl) (by simp) (fun i hi => ?_)
                obtain rfl : i = 0 := by simpa using hi
                refine wpOp_loadT (n := 9) rfl rfl digits_row (HB5a.out.fr fz1 id) rfl ?_
                refine ⟨(KS.out _ fz1), ?_⟩
                clear hi
                (try simp only [Act.put, List.getElem_toArray, List.getElem_cons_zero, List.getElem_cons_succ, List.setIfInBounds_toArray, List.set_cons_zero, List.set_cons_succ])
                refine wpAnyH_all (rs := [16]) (by kernel_rfl) (by simp) (fun i hi => ?_)
                obtain rfl : i = 16 := by simpa using hi
                refine wpOp_step rfl (fun K hK => ?_)
                go_simp
                refine (KA.out _).mono ?_
                rintro e wz2 ⟨rfl, hfz2⟩
                have fz2 : Fr Nil _ _ := fz1.trans hfz2
                refine hK _ _ ⟨(KS.out _ fz2), ?_⟩
                clear hK K hi
                (try simp only [Act.put, List.getElem_toArray, List.getElem_cons_zero, List.getElem_cons_succ, List.setIfInBounds_toArray, List.set_cons_zero, List.set_cons_succ])
                refine wpAnyH_all (rs := [17]) (by kernel_rfl) (by simp) (fun i hi => ?_)
                obtain rfl : i = 17 := by simpa using hi
                refine wpOp_storeT (n := 9) rfl rfl rfl digits_row (HB5a.out.fr fz2 id) rfl rfl (dcells_one _) ?_
                intro ws hbs hfs
                have HWs := Lib.hid (show g < wa.heap.size ∧ w8.heap.size ≠ w6.heap.size from ⟨HGA.out, by omega⟩)
                refine ⟨⟨⟨(hfs.cell (p := ⟨g, _, none⟩) (Nat.lt_of_lt_of_le HGA.out fz2.size) hgne).trans (KS.out _ fz2).1.1, (hfs.cell (p := ⟨g, _, none⟩) (Nat.lt_of_lt_of_le HGA.out fz2.size) hgne).trans (KS.out _ fz2).1.2⟩, (KS.out _ fz2).2.fr hfs HWs.out.2⟩, ?_⟩
                have HBs := Lib.hid hbs
                have HB1s := Lib.hid ((HB1a.out.fr fz2 id).fr hfs (by omega))
                have HFs := Lib.hid (Fr.then (HFa.out.trans fz2) hfs (fun k hk hlt => by omega))
                clear hbs hfs hi
                (try simp only [Act.put, List.getElem_toArray, List.getElem_cons_zero, List.getElem_cons_succ, List.setIfInBounds_toArray, List.set_cons_zero, List.set_cons_succ])
                refine wpAnyH_done (by kernel_rfl) ?_ _
                go_wp2_with fail
                go_roundw
                case rel => exact ⟨k + 1, by omega, by go_num, HB1s.out, by rw [HT.out]; exact HBs.out, HFs.out, HIk.out⟩
                case measure => simp [intOf]; omega
      · obtain rfl : k = l.length := by omega
        have hal : ∀ (j : Nat) p, l[j]? = some p → lie p = true := fun j p h => hlie j p (List.getElem?_eq_some_iff.1 h).1 h
        have hR := HR.out
        rcases hR with ⟨rfl, rfl, _⟩ | ⟨_, _, p, hp, hpl⟩
        rotate_left
        · obtain ⟨j, hj, rfl⟩ := List.getElem_of_mem hp
          exact absurd (hal j _ (List.getElem?_eq_getElem hj)) (by rw [hpl]; simp)
        have hS := S_in hl20 (Nat.le_refl l.length) (fun j p _ h => hal j p h)
        have kw := fun W => WideE.wide_any (S l l.length) W (by omega) (by omega)
        simp only [KernC.told_in (show -170141183460469231731687303715884105728 ≤ S l l.length ∧ S l l.length < 170141183460469231731687303715884105728 by omega), HH.out, HL'.out] at kw
        have KW := Lib.hid kw
        have KC := Lib.hid (fun W => WideF.cmp_any (S l l.length) 0 W (by omega) (by omega) (by omega) (by omega))
        have HAL := Lib.hid hal
        have HB1 := Lib.hid hb1
        have HB5 := Lib.hid hb2
        have HFr := Lib.hid hf
        have hg1 : w5.heap.size < wr.heap.size := hb1.lt
        have hg2 : w6.heap.size < wr.heap.size := hb2.lt
        clear kw hb1 hb2 hf hal hS hlie HR HH HL'
        go_wp2_with (first
          | (with_reducible refine wpList_loadT (dst := some 81) (n := 9) ?_ digits_row HB5.out rfl ?_); rfl)
        refine (KW.out _).mono ?_
        rintro e w10 ⟨rfl, hf10⟩
        have HX := Lib.hid (Bk.new w10 40 #[.int .i64 H, .int .u64 L])
        have HA := Lib.hid (hf10.alloc (.cells #[.int .i64 H, .int .u64 L] 40))
        have HB1z := Lib.hid (HB1.out.fr HA.out id)
        have HB5z := Lib.hid (HB5.out.fr HA.out id)
        have HFz := Lib.hid (HFr.out.trans HA.out)
        clear hf10 HA HB1 HB5 HFr KW
        go_upto_region 17 with fail
        generalize w10.alloc (.cells #[.int .i64 H, .int .u64 L] 40) = wz at *
        by_cases h3 : l.length = 3
        · obtain ⟨pa, ha⟩ : ∃ p, l[0]? = some p := ⟨l[0], List.getElem?_eq_getElem (by omega)⟩
          obtain ⟨pb, hb⟩ : ∃ p, l[1]? = some p := ⟨l[1], List.getElem?_eq_getElem (by omega)⟩
          obtain ⟨pd, hc⟩ : ∃ p, l[2]? = some p := ⟨l[2], List.getElem?_eq_getElem (by omega)⟩
          have kt := fun W => turn_p pa pb pd W
          simp only [turn3 ha hb hc h3 HAL.out] at kt
          have KT := Lib.hid kt
          rcases HV6.out with ⟨_, h0⟩ | ⟨g, o, cap, hve, hcc, hgg, hr⟩
          · subst h0; simp at h3
          simp only [Value.slice.injEq, true_and] at hve
          obtain ⟨rfl, rfl⟩ := hve
          have R0 := Lib.hid (fun W (h : ∃ p : FrW Nil wz, W = p.val) => show W.rangeAt g o (pc pa) by
            obtain ⟨p, rfl⟩ := h
            have := row_range (hr.fr (HFz.out.trans p.fr) hgg id) ha
            rwa [Nat.zero_mul, Nat.add_zero] at this)
          have R1 := Lib.hid (fun W (h : ∃ p : FrW Nil wz, W = p.val) => show W.rangeAt g (o + 3) (pc pb) by
            obtain ⟨p, rfl⟩ := h
            exact row_range (hr.fr (HFz.out.trans p.fr) hgg id) hb)
          have R2 := Lib.hid (fun W (h : ∃ p : FrW Nil wz, W = p.val) => show W.rangeAt g (o + 6) (pc pd) by
            obtain ⟨p, rfl⟩ := h
            exact row_range (hr.fr (HFz.out.trans p.fr) hgg id) hc)
          have R5 := Lib.hid (fun W (h : ∃ p : FrW Nil wz, W = p.val) => show Bk W w6.heap.size 44 (dcells (S l l.length)) by
            obtain ⟨p, rfl⟩ := h
            exact HB5z.out.fr p.fr id)
          clear kt ha hb hc hr
          obtain ⟨q0, q1⟩ := quiet_c2 (S := Nil) HB1z.out id
          obtain ⟨r0, r1⟩ := quiet_c2 (S := Nil) HX.out id
          generalize S l l.length = sn at *
          generalize WideF.cmpI sn 0 = z at *
          have h3' : (l.length : Int) = 3 := by omega
          have hne : (((l.length : Int)) != 3) = false := by simp [h3']
          clear h3
          refine wp_region_quiet_fr Nil (by kernel_rfl) (by kernel_rfl) ?_
          repeat (first
            | ((with_reducible refine wpQuiet_loadP (dst := some 101) (p := pa) ?_ ?_ R0.out ?_); rfl; rfl; simp only [Act.put, List.getElem_toArray, List.getElem_cons_zero, List.getElem_cons_succ, List.setIfInBounds_toArray, List.set_cons_zero, List.set_cons_succ])
            | ((with_reducible refine wpQuiet_loadP (dst := some 104) (p := pb) ?_ ?_ R1.out ?_); rfl; rfl; simp only [Act.put, List.getElem_toArray, List.getElem_cons_zero, List.getElem_cons_succ, List.setIfInBounds_toArray, List.set_cons_zero, List.set_cons_succ])
            | ((with_reducible refine wpQuiet_loadP (dst := some 107) (p := pd) ?_ ?_ R2.out ?_); rfl; rfl; simp only [Act.put, List.getElem_toArray, List.getElem_cons_zero, List.getElem_cons_succ, List.setIfInBounds_toArray, List.set_cons_zero, List.set_cons_succ])
            | ((with_reducible refine wpQuiet_loadD (dst := some 109) ?_ ?_ R5.out ?_); rfl; rfl; simp only [Act.put, List.getElem_toArray, List.getElem_cons_zero, List.getElem_cons_succ, List.setIfInBounds_toArray, List.set_cons_zero, List.set_cons_succ])
            | go_big_quiet_step (first
              | (go_at_call 7; with_reducible exact quiet_call (KT.out _))
              | (go_at_call 23; with_reducible exact quiet_call (KLD.out _))
              | (go_at_call 27; with_reducible exact quiet_call (KC.out _))
              | (go_at_call 11; with_reducible exact quiet_call (KV.out _))))
          refine wpQuiet_nil ?_
          intro _ hw'
          obtain ⟨⟨wq, hfq⟩, hw''⟩ := hw'
          subst hw''
          have HFq := Lib.hid (HF6.out.trans (HFz.out.trans hfq))
          clear hfq q0 q1 r0 r1
          go_wp2_with fail
          exact bodyPost_ret (v := .bool true) (by simp [results, Try.results6, go_sem]) rfl ⟨rfl, HFq.out⟩
        · obtain ⟨q0, q1⟩ := quiet_c2 (S := Nil) HB1z.out id
          obtain ⟨r0, r1⟩ := quiet_c2 (S := Nil) HX.out id
          have h3' : ¬ (l.length : Int) = 3 := by omega
          have hne : (((l.length : Int)) != 3) = true := by simpa using h3'
          clear h3
          refine wp_region_quiet_fr Nil (by kernel_rfl) (by kernel_rfl) ?_
          repeat (go_big_quiet_step (first | (go_at_call 11; with_reducible exact quiet_call (KV.out _))))
          refine wpQuiet_nil ?_
          intro _ hw'
          obtain ⟨⟨wq, hfq⟩, hw''⟩ := hw'
          subst hw''
          have HFq := Lib.hid (HF6.out.trans (HFz.out.trans hfq))
          clear hfq q0 q1 r0 r1
          go_wp2_with fail
          exact bodyPost_ret (v := .bool true) (by simp [results, Try.results6, go_sem]) rfl ⟨rfl, HFq.out⟩
  · have h' : ¬ (20 : Int) < l0.length := by omega
    have HV := Lib.hid hv
    have HL := Lib.hid (show l0.length ≤ 20 by omega)
    clear hv
    go_upto_region 3 with fail
    generalize Value.slice A l0.length c = u at *
    clear h' h
    generalize l0 = l at *
    go_wp2_with (first
      | (at_builtin; refine wpList_app EPt_ok rfl (.tmp 15) (.tmp 16) 37 rfl rfl w.heap.size _ _ [] l rfl (Own.made (Nat.le_refl _) rfl) rfl (HV.out.fr ((Fr.refl Nil w).alloc _)) (by have := HL.out; simp; omega) (by simp) ?_; intro v3 w3 o1 o2 o3 o4; rw [List.nil_append] at o1; have HF3 := Lib.hid (show Fr Nil w w3 from ((Fr.refl Nil w).alloc (.cells #[] 23)).then o2 (fun i hi hlt => by have := of_made hi; omega)); have HO3 := Lib.hid (o1.sl EPt_ok); obtain ⟨A3, c3, rfl⟩ := (o1.sl EPt_ok).shape; clear o1 o2 o3 o4)
      | (at_builtin; refine wpList_app EPt_ok rfl (.tmp 19) (.tmp 20) 37 rfl rfl w3.heap.size _ _ [] l rfl (Own.made (Nat.le_refl _) rfl) rfl (HO3.out.come.fr ((Fr.refl Nil w3).alloc _)) (by have := HL.out; simp; omega) (by simp) ?_; intro v4 w4 o1 o2 o3 o4; rw [List.nil_append] at o1; have HF4 := Lib.hid (show Fr Nil w3 w4 from ((Fr.refl Nil w3).alloc (.cells #[] 23)).then o2 (fun i hi hlt => by have := of_made hi; omega)); have HO4 := Lib.hid (o1.sl EPt_ok); obtain ⟨A4, c4, rfl⟩ := (o1.sl EPt_ok).shape; clear o1 o2 o3 o4))
    refine (area_any l _ w4 HL.out HO4.out).mono ?_
    rintro e w5 ⟨n, b, rfl, hf5, hres⟩
    have HF5 := Lib.hid ((HF3.out.trans HF4.out).trans hf5)
    have HV5 := Lib.hid (HO3.out.fr (HF4.out.trans hf5))
    have HR := Lib.hid hres
    clear hf5 hres HO4 HF4 HV
    obtain ⟨H, hH⟩ : ∃ H, n / 18446744073709551616 = H := ⟨_, rfl⟩
    obtain ⟨L, hL⟩ : ∃ L, n % 18446744073709551616 = L := ⟨_, rfl⟩
    unfold wcs
    rw [hH, hL]
    have HH := Lib.hid hH
    have HL' := Lib.hid hL
    clear hH hL
    go_wp2_with fail
    refine (KL.out _).mono ?_
    rintro e w6 ⟨rfl, hf6⟩
    have HN := Lib.hid (show Bk (w6.alloc (.cells #[.int .u64 0, .int .u64 0, .int .u64 0, .int .u64 0, .int .u64 0, .int .u64 0, .int .u64 0, .int .u64 0, .int .u64 0] 44)) w6.heap.size 44 (dcells 0) by rw [WideR.dcells_zero]; exact Bk.new _ _ _)
    have HBw := Lib.hid ((Bk.new w5 40 #[.int .i64 H, .int .u64 L]).fr hf6 id)
    have HF6 := Lib.hid ((HF5.out.alloc (.cells #[.int .i64 H, .int .u64 L] 40)).trans hf6)
    have HV6 := Lib.hid (HV5.out.fr (((Fr.refl Nil w5).alloc (.cells #[.int .i64 H, .int .u64 L] 40)).trans hf6))
    have hw5 : w5.heap.size < w6.heap.size := HBw.out.lt
    clear hf6 HF5 HV5
    go_wp2_with fail
    go_loopw [6] (fun i wr => LAt w6 w5.heap.size w6.heap.size H L l i wr) (fun i _ => l.length - (intOf i).toNat)
    case atStart => exact ⟨0, by omega, rfl, HBw.out.alloc _, HN.out, (Fr.refl Nil w6).alloc _, fun j p h => absurd h (by omega)⟩
    case round =>
      obtain ⟨k, hk, rfl, hb1, hb2, hf, hlie⟩ := hrel
      have hl20 := HL.out
      have hl20' : (l.length : Int) ≤ 20 := by omega
      by_cases hlt : k < l.length
      · obtain ⟨p, hp⟩ : ∃ p, l[k]? = some p := ⟨l[k], List.getElem?_eq_getElem hlt⟩
        obtain ⟨p0, hp0⟩ : ∃ p, l[0]? = some p := ⟨l[0], List.getElem?_eq_getElem (by omega)⟩
        rcases HV6.out with ⟨_, h0⟩ | ⟨g, o, cap, hve, hc, ha, hr⟩
        · subst h0; simp at hlt
        simp only [Value.slice.injEq, true_and] at hve
        obtain ⟨rfl, rfl⟩ := hve
        have HP := Lib.hid (fun W (h : Fr Nil w6 W) => pt_at (hr.fr h ha id) hp)
        have HP0 := Lib.hid (fun W (h : Fr Nil w6 W) => pt_at (hr.fr h ha id) hp0)
        have HFr := Lib.hid hf
        have HB1 := Lib.hid hb1
        have HB5 := Lib.hid hb2
        have HI := Lib.hid hlie
        have hk' : (k : Int) < l.length := by omega
        have hl0 : (0 : Int) < l.length := by omega
        have hg1 : w5.heap.size < wr.heap.size := hb1.lt
        have hg2 : w6.heap.size < wr.heap.size := hb2.lt
        have HGr := Lib.hid (Nat.lt_of_lt_of_le ha hf.size)
        have KP := Lib.hid (fun W => rl_any p W)
        obtain ⟨c0, c1, c2⟩ := HP.out _ HFr.out
        clear hf hb1 hb2 hlie
        rcases hz : lie p with _ | _
        · simp only [hz] at KP
          have hR := HR.out
          rcases hR with ⟨_, _, ha'⟩ | ⟨rfl, rfl, _⟩
          · exact absurd (ha' p (List.mem_of_getElem? hp)) (by rw [hz]; simp)
          obtain rfl : (0 : Int) = H := HH.out
          obtain rfl : (0 : Int) = L := HL'.out
          clear HR HH HL' hz
          go_wp2_with fail
          refine (KP.out _).mono ?_
          rintro e w8 ⟨rfl, hf8⟩
          obtain ⟨y0, y1, f0, f1⟩ := (HB1.out.fr hf8 id).c2
          have HF8 := Lib.hid (HF6.out.trans (HFr.out.trans hf8))
          clear hf8 c0 c1 c2
          go_wp2_with fail
          refine (KV.out _).mono ?_
          rintro e w9 ⟨rfl, hf9⟩
          go_wp2_with fail
          exact bodyPost_ret (v := .bool true) (by simp [results, Try.results6, go_sem]) rfl ⟨rfl, HF8.out.trans hf9⟩
        · have HZ := Lib.hid hz
          have HIk := Lib.hid (show ∀ (j : Nat) p, j < k + 1 → l[j]? = some p → lie p = true from fun j x hj hx => by
            rcases Nat.lt_or_ge j k with h | h
            · exact HI.out j x h hx
            · obtain rfl : j = k := by omega
              rw [hp] at hx
              obtain rfl := Option.some.inj hx
              exact hz)
          simp only [hz] at KP
          clear hz
          go_wp2_with fail
          refine (KP.out _).mono ?_
          rintro e w8 ⟨rfl, hf8⟩
          have HF8 := Lib.hid (HFr.out.trans hf8)
          have HB18 := Lib.hid (HB1.out.fr hf8 id)
          have HB58 := Lib.hid (HB5.out.fr hf8 id)
          have hg18 : w5.heap.size < w8.heap.size := HB18.out.lt
          have hg28 : w6.heap.size < w8.heap.size := HB58.out.lt
          have hgg : g < w8.heap.size := Nat.lt_of_lt_of_le HGr.out hf8.size
          obtain ⟨x0, x1, x2⟩ := HP0.out _ HF8.out
          rw [Nat.zero_mul, Nat.add_zero] at x0 x1 x2
          have HN8 := Lib.hid (Bk.new w8 23 #[.int .i64 p0.1, .int .i64 p0.2.1, .int .i64 p0.2.2])
          have HA8 := Lib.hid ((Fr.refl Nil w8).alloc (.cells #[.int .i64 p0.1, .int .i64 p0.2.1, .int .i64 p0.2.2] 23))
          clear hf8 c0 c1 c2 HFr HB1 HB5
          by_cases hn : k + 1 < l.length
          · obtain ⟨q, hq⟩ : ∃ p, l[k + 1]? = some p := ⟨l[k + 1], List.getElem?_eq_getElem hn⟩
            have HQ := Lib.hid (show l[nxi l.length k]? = some q by unfold nxi; rw [if_pos hn]; exact hq)
            have hn' : (k : Int) + 1 < l.length := by omega
            obtain ⟨y0, y1, y2⟩ := pt_at (hr.fr (HF8.out.trans HA8.out) ha id) hq
            go_upto_region 14 with fail
            have HB9 := Lib.hid (Bk.new w8 23 #[.int .i64 q.1, .int .i64 q.2.1, .int .i64 q.2.2])
            have HF9 := Lib.hid ((Fr.refl Nil w8).alloc (.cells #[.int .i64 q.1, .int .i64 q.2.1, .int .i64 q.2.2] 23))
            generalize w8.alloc (.cells #[.int .i64 q.1, .int .i64 q.2.1, .int .i64 q.2.2] 23) = w9 at *
            clear x0 x1 x2 y0 y1 y2
            have KQ := Lib.hid (fun W => rl_any q W)
            have HB19 := Lib.hid (HB18.out.fr HF9.out id)
            have HB59 := Lib.hid (HB58.out.fr HF9.out id)
            have HFr9 := Lib.hid (HF8.out.trans HF9.out)
            obtain ⟨b0, b1, b2, _, _, _⟩ := HB9.out.c3
            clear HB18 HB58 HF9 HF8 HN8 HA8
            rcases hzq : lie q with _ | _
            · have HS := Lib.hid (show S l (k + 1) = S l k by simp only [S]; rw [term_no hp HQ.out hzq]; omega)
              simp only [hzq] at KQ
              clear hzq
              go_wp2_with fail
              refine (KQ.out _).mono ?_
              rintro e wa ⟨rfl, hfa⟩
              have HB1a := Lib.hid (HB19.out.fr hfa id)
              have HB5a := Lib.hid (HB59.out.fr hfa id)
              have HFa := Lib.hid (HFr9.out.trans hfa)
              clear hfa b0 b1 b2
              go_wp2_with fail
              go_roundw
              case rel => exact ⟨k + 1, by omega, by go_num, HB1a.out, by rw [HS.out]; exact HB5a.out, HFa.out, HIk.out⟩
              case measure => simp [intOf]; omega
            · have HT := Lib.hid (show S l (k + 1) = S l k + tr p q by simp only [S]; rw [term_yes hp HQ.out hzq])
              have KX := Lib.hid (fun W => rcross_pq HZ.out hzq W)
              have KA := Lib.hid (fun W => WideD.add_any (S l k) (tr p q) W)
              simp only [hzq] at KQ
              clear hzq
              go_wp2_with fail
              refine (KQ.out _).mono ?_
              rintro e wa ⟨rfl, hfa⟩
              have HB1a := Lib.hid (HB19.out.fr hfa id)
              have HB5a := Lib.hid (HB59.out.fr hfa id)
              have HB9a := Lib.hid (HB9.out.fr hfa id)
              have HFa := Lib.hid (HFr9.out.trans hfa)
              have hg1a : w5.heap.size < wa.heap.size := HB1a.out.lt
              have hg2a : w6.heap.size < wa.heap.size := HB5a.out.lt
              have HWA := Lib.hid (show w8.heap.size < wa.heap.size from HB9a.out.lt)
              have HGA := Lib.hid (Nat.lt_of_lt_of_le hgg (Nat.le_of_lt HWA.out))
              have hgne : g ≠ w6.heap.size := by omega
              clear hfa b0 b1 b2
              generalize S l k = sn at *
              generalize tr p q = tn at *
              go_upto_region 15 with fail
              have KS := Lib.hid (fun W (h : Fr Nil wa W) => (show (W.cell? ⟨g, o + k * 3 + 1, none⟩ = some (.int .i64 p.2.1) ∧ W.cell? ⟨g, o + k * 3 + 2, none⟩ = some (.int .i64 p.2.2)) ∧ Bk W w8.heap.size 23 #[.int .i64 q.1, .int .i64 q.2.1, .int .i64 q.2.2] from ⟨(HP.out _ (HFa.out.trans h)).2, HB9a.out.fr h id⟩))
              refine wp_region_held (S := fun w' => (w'.cell? ⟨g, o + k * 3 + 1, none⟩ = some (.int .i64 p.2.1) ∧ w'.cell? ⟨g, o + k * 3 + 2, none⟩ = some (.int .i64 p.2.2)) ∧ Bk w' w8.heap.size 23 #[.int .i64 q.1, .int .i64 q.2.1, .int .i64 q.2.2]) (by kernel_rfl) ?_
              have fz0 : Fr Nil wa wa.drew := (Fr.refl Nil wa).drew
              change wpAnyH _ _ _ _ _ _ _ _ (World.drew _)
              refine wpAnyH_take (i := 1) (v := .slice (some ⟨g, o, none⟩) l.length c3) rfl (by kernel_rfl) (by kernel_rfl) (by kernel_rfl) (fun _ _ _ h => h) (Or.inl ⟨by rfl, fun w' hw' => by first | (go_simp; done) | (go_simp; rfl)⟩) (KS.out _ fz0) ?_
              (try simp only [Act.put, List.getElem_toArray, List.getElem_cons_zero, List.getElem_cons_succ, List.setIfInBounds_toArray, List.set_cons_zero, List.set_cons_succ])
              refine wpAnyH_take (i := 2) (v := .int .i64 k) rfl (by kernel_rfl) (by kernel_rfl) (by kernel_rfl) (fun _ _ _ h => h) (Or.inl ⟨by rfl, fun w' hw' => by first | (go_simp; done) | (go_simp; rfl)⟩) (KS.out _ fz0) ?_
              (try simp only [Act.put, List.getElem_toArray, List.getElem_cons_zero, List.getElem_cons_succ, List.setIfInBounds_toArray, List.set_cons_zero, List.set_cons_succ])
              refine wpAnyH_take (i := 3) (v := .pointer (some ⟨g, o + k * 3, none⟩)) rfl (by kernel_rfl) (by kernel_rfl) (by kernel_rfl) (fun _ _ _ h => h) (Or.inl ⟨by rfl, fun w' hw' => by first | (go_simp; done) | (go_simp; rfl)⟩) (KS.out _ fz0) ?_
              (try simp only [Act.put, List.getElem_toArray, List.getElem_cons_zero, List.getElem_cons_succ, List.setIfInBounds_toArray, List.set_cons_zero, List.set_cons_succ])
              refine wpAnyH_take (i := 4) (v := .pointer (some ⟨g, o + k * 3 + 1, none⟩)) rfl (by kernel_rfl) (by kernel_rfl) (by kernel_rfl) (fun _ _ _ h => h) (Or.inl ⟨by rfl, fun w' hw' => by first | (go_simp; done) | (go_simp; rfl)⟩) (KS.out _ fz0) ?_
              (try simp only [Act.put, List.getElem_toArray, List.getElem_cons_zero, List.getElem_cons_succ, List.setIfInBounds_toArray, List.set_cons_zero, List.set_cons_succ])
              refine wpAnyH_take (i := 5) (v := .int .i64 p.2.1) rfl (by kernel_rfl) (by kernel_rfl) (by kernel_rfl) (fun _ _ _ h => h) (Or.inl ⟨by rfl, fun w' hw' => by obtain ⟨z1, z2⟩ := hw'.1; first | (go_simp; done) | (go_simp; rfl)⟩) (KS.out _ fz0) ?_
              (try simp only [Act.put, List.getElem_toArray, List.getElem_cons_zero, List.getElem_cons_succ, List.setIfInBounds_toArray, List.set_cons_zero, List.set_cons_succ])
              refine wpAnyH_take (i := 6) (v := .pointer (some ⟨w8.heap.size, 2, none⟩)) rfl (by kernel_rfl) (by kernel_rfl) (by kernel_rfl) (fun _ _ _ h => h) (Or.inl ⟨by rfl, fun w' hw' => by first | (go_simp; done) | (go_simp; rfl)⟩) (KS.out _ fz0) ?_
              (try simp only [Act.put, List.getElem_toArray, List.getElem_cons_zero, List.getElem_cons_succ, List.setIfInBounds_toArray, List.set_cons_zero, List.set_cons_succ])
              refine wpAnyH_take (i := 7) (v := .int .i64 q.2.2) rfl (by kernel_rfl) (by kernel_rfl) (by kernel_rfl) (fun _ _ _ h => h) (Or.inl ⟨by rfl, fun w' hw' => by obtain ⟨z0, z1, z2, _⟩ := hw'.2.c3; first | (go_simp; done) | (go_simp; rfl)⟩) (KS.out _ fz0) ?_
              (try simp only [Act.put, List.getElem_toArray, List.getElem_cons_zero, List.getElem_cons_succ, List.setIfInBounds_toArray, List.set_cons_zero, List.set_cons_succ])
              refine wpAnyH_take (i := 8) (v := .pointer (some ⟨w8.heap.size, 1, none⟩)) rfl (by kernel_rfl) (by kernel_rfl) (by kernel_rfl) (fun _ _ _ h => h) (Or.inl ⟨by rfl, fun w' hw' => by first | (go_simp; done) | (go_simp; rfl)⟩) (KS.out _ fz0) ?_
              (try simp only [Act.put, List.getElem_toArray, List.getElem_cons_zero, List.getElem_cons_succ, List.setIfInBounds_toArray, List.set_cons_zero, List.set_cons_succ])
              refine wpAnyH_take (i := 9) (v := .int .i64 q.2.1) rfl (by kernel_rfl) (by kernel_rfl) (by kernel_rfl) (fun _ _ _ h => h) (Or.inl ⟨by rfl, fun w' hw' => by obtain ⟨z0, z1, z2, _⟩ := hw'.2.c3; first | (go_simp; done) | (go_simp; rfl)⟩) (KS.out _ fz0) ?_
              (try simp only [Act.put, List.getElem_toArray, List.getElem_cons_zero, List.getElem_cons_succ, List.setIfInBounds_toArray, List.set_cons_zero, List.set_cons_succ])
              refine wpAnyH_take (i := 10) (v := .slice (some ⟨g, o, none⟩) l.length c3) rfl (by kernel_rfl) (by kernel_rfl) (by kernel_rfl) (fun _ _ _ h => h) (Or.inl ⟨by rfl, fun w' hw' => by first | (go_simp; done) | (go_simp; rfl)⟩) (KS.out _ fz0) ?_
              (try simp only [Act.put, List.getElem_toArray, List.getElem_cons_zero, List.getElem_cons_succ, List.setIfInBounds_toArray, List.set_cons_zero, List.set_cons_succ])
              refine wpAnyH_take (i := 11) (v := .int .i64 k) rfl (by kernel_rfl) (by kernel_rfl) (by kernel_rfl) (fun _ _ _ h => h) (Or.inl ⟨by rfl, fun w' hw' => by first | (go_simp; done) | (go_simp; rfl)⟩) (KS.out _ fz0) ?_
              (try simp only [Act.put, List.getElem_toArray, List.getElem_cons_zero, List.getElem_cons_succ, List.setIfInBounds_toArray, List.set_cons_zero, List.set_cons_succ])
              refine wpAnyH_take (i := 12) (v := .pointer (some ⟨g, o + k * 3, none⟩)) rfl (by kernel_rfl) (by kernel_rfl) (by kernel_rfl) (fun _ _ _ h => h) (Or.inl ⟨by rfl, fun w' hw' => by first | (go_simp; done) | (go_simp; rfl)⟩) (KS.out _ fz0) ?_
              (try simp only [Act.put, List.getElem_toArray, List.getElem_cons_zero, List.getElem_cons_succ, List.setIfInBounds_toArray, List.set_cons_zero, List.set_cons_succ])
              refine wpAnyH_take (i := 13) (v := .pointer (some ⟨g, o + k * 3 + 2, none⟩)) rfl (by kernel_rfl) (by kernel_rfl) (by kernel_rfl) (fun _ _ _ h => h) (Or.inl ⟨by rfl, fun w' hw' => by first | (go_simp; done) | (go_simp; rfl)⟩) (KS.out _ fz0) ?_
              (try simp only [Act.put, List.getElem_toArray, List.getElem_cons_zero, List.getElem_cons_succ, List.setIfInBounds_toArray, List.set_cons_zero, List.set_cons_succ])
              refine wpAnyH_take (i := 14) (v := .int .i64 p.2.2) rfl (by kernel_rfl) (by kernel_rfl) (by kernel_rfl) (fun _ _ _ h => h) (Or.inl ⟨by rfl, fun w' hw' => by obtain ⟨z1, z2⟩ := hw'.1; first | (go_simp; done) | (go_simp; rfl)⟩) (KS.out _ fz0) ?_
              (try simp only [Act.put, List.getElem_toArray, List.getElem_cons_zero, List.getElem_cons_succ, List.setIfInBounds_toArray, List.set_cons_zero, List.set_cons_succ])
              refine wpAnyH_all (rs := [0, 15]) (by kernel_rfl) (by simp) (fun i hi => ?_)
              rcases (show i = 0 ∨ i = 15 by simpa using hi) with rfl | rfl
              · refine wpOp_loadT (n := 9) rfl rfl digits_row (HB5a.out.fr fz0 id) rfl ?_
                refine ⟨(KS.out _ fz0), ?_⟩
                clear hi
                (try simp only [Act.put, List.getElem_toArray, List.getElem_cons_zero, List.getElem_cons_succ, List.setIfInBounds_toArray, List.set_cons_zero, List.set_cons_succ])
                refine wpAnyH_all (rs := [15]) (by kernel_rfl) (by simp) (fun i hi => ?_)
                obtain rfl : i = 15 := by simpa using hi
                refine wpOp_step rfl (fun K hK => ?_)
                go_simp
                refine (KX.out _).mono ?_
                rintro e wz1 ⟨rfl, hfz1⟩
                have fz1 : Fr Nil _ _ := fz0.trans hfz1
                refine hK _ _ ⟨(KS.out _ fz1), ?_⟩
                clear hK K hi
                (try simp only [Act.put, List.getElem_toArray, List.getElem_cons_zero, List.getElem_cons_succ, List.setIfInBounds_toArray, List.set_cons_zero, List.set_cons_succ])
                refine wpAnyH_all (rs := [16]) (by kernel_rfl) (by simp) (fun i hi => ?_)
                obtain rfl : i = 16 := by simpa using hi
                refine wpOp_step rfl (fun K hK => ?_)
                go_simp
                refine (KA.out _).mono ?_
                rintro e wz2 ⟨rfl, hfz2⟩
                have fz2 : Fr Nil _ _ := fz1.trans hfz2
                refine hK _ _ ⟨(KS.out _ fz2), ?_⟩
                clear hK K hi
                (try simp only [Act.put, List.getElem_toArray, List.getElem_cons_zero, List.getElem_cons_succ, List.setIfInBounds_toArray, List.set_cons_zero, List.set_cons_succ])
                refine wpAnyH_all (rs := [17]) (by kernel_rfl) (by simp) (fun i hi => ?_)
                obtain rfl : i = 17 := by simpa using hi
                refine wpOp_storeT (n := 9) rfl rfl rfl digits_row (HB5a.out.fr fz2 id) rfl rfl (dcells_one _) ?_
                intro ws hbs hfs
                have HWs := Lib.hid (show g < wa.heap.size ∧ w8.heap.size ≠ w6.heap.size from ⟨HGA.out, by omega⟩)
                refine ⟨⟨⟨(hfs.cell (p := ⟨g, _, none⟩) (Nat.lt_of_lt_of_le HGA.out fz2.size) hgne).trans (KS.out _ fz2).1.1, (hfs.cell (p := ⟨g, _, none⟩) (Nat.lt_of_lt_of_le HGA.out fz2.size) hgne).trans (KS.out _ fz2).1.2⟩, (KS.out _ fz2).2.fr hfs HWs.out.2⟩, ?_⟩
                have HBs := Lib.hid hbs
                have HB1s := Lib.hid ((HB1a.out.fr fz2 id).fr hfs (by omega))
                have HFs := Lib.hid (Fr.then (HFa.out.trans fz2) hfs (fun k hk hlt => by omega))
                clear hbs hfs hi
                (try simp only [Act.put, List.getElem_toArray, List.getElem_cons_zero, List.getElem_cons_succ, List.setIfInBounds_toArray, List.set_cons_zero, List.set_cons_succ])
                refine wpAnyH_done (by kernel_rfl) ?_ _
                go_wp2_with fail
                go_roundw
                case rel => exact ⟨k + 1, by omega, by go_num, HB1s.out, by rw [HT.out]; exact HBs.out, HFs.out, HIk.out⟩
                case measure => simp [intOf]; omega
              · refine wpOp_step rfl (fun K hK => ?_)
                go_simp
                refine (KX.out _).mono ?_
                rintro e wz1 ⟨rfl, hfz1⟩
                have fz1 : Fr Nil _ _ := fz0.trans hfz1
                refine hK _ _ ⟨(KS.out _ fz1), ?_⟩
                clear hK K hi
                (try simp only [Act.put, List.getElem_toArray, List.getElem_cons_zero, List.getElem_cons_succ, List.setIfInBounds_toArray, List.set_cons_zero, List.set_cons_succ])
                refine wpAnyH_all (rs := [0]) (by kernel_rfl) (by simp) (fun i hi => ?_)
                obtain rfl : i = 0 := by simpa using hi
                refine wpOp_loadT (n := 9) rfl rfl digits_row (HB5a.out.fr fz1 id) rfl ?_
                refine ⟨(KS.out _ fz1), ?_⟩
                clear hi
                (try simp only [Act.put, List.getElem_toArray, List.getElem_cons_zero, List.getElem_cons_succ, List.setIfInBounds_toArray, List.set_cons_zero, List.set_cons_succ])
                refine wpAnyH_all (rs := [16]) (by kernel_rfl) (by simp) (fun i hi => ?_)
                obtain rfl : i = 16 := by simpa using hi
                refine wpOp_step rfl (fun K hK => ?_)
                go_simp
                refine (KA.out _).mono ?_
                rintro e wz2 ⟨rfl, hfz2⟩
                have fz2 : Fr Nil _ _ := fz1.trans hfz2
                refine hK _ _ ⟨(KS.out _ fz2), ?_⟩
                clear hK K hi
                (try simp only [Act.put, List.getElem_toArray, List.getElem_cons_zero, List.getElem_cons_succ, List.setIfInBounds_toArray, List.set_cons_zero, List.set_cons_succ])
                refine wpAnyH_all (rs := [17]) (by kernel_rfl) (by simp) (fun i hi => ?_)
                obtain rfl : i = 17 := by simpa using hi
                refine wpOp_storeT (n := 9) rfl rfl rfl digits_row (HB5a.out.fr fz2 id) rfl rfl (dcells_one _) ?_
                intro ws hbs hfs
                have HWs := Lib.hid (show g < wa.heap.size ∧ w8.heap.size ≠ w6.heap.size from ⟨HGA.out, by omega⟩)
                refine ⟨⟨⟨(hfs.cell (p := ⟨g, _, none⟩) (Nat.lt_of_lt_of_le HGA.out fz2.size) hgne).trans (KS.out _ fz2).1.1, (hfs.cell (p := ⟨g, _, none⟩) (Nat.lt_of_lt_of_le HGA.out fz2.size) hgne).trans (KS.out _ fz2).1.2⟩, (KS.out _ fz2).2.fr hfs HWs.out.2⟩, ?_⟩
                have HBs := Lib.hid hbs
                have HB1s := Lib.hid ((HB1a.out.fr fz2 id).fr hfs (by omega))
                have HFs := Lib.hid (Fr.then (HFa.out.trans fz2) hfs (fun k hk hlt => by omega))
                clear hbs hfs hi
                (try simp only [Act.put, List.getElem_toArray, List.getElem_cons_zero, List.getElem_cons_succ, List.setIfInBounds_toArray, List.set_cons_zero, List.set_cons_succ])
                refine wpAnyH_done (by kernel_rfl) ?_ _
                go_wp2_with fail
                go_roundw
                case rel => exact ⟨k + 1, by omega, by go_num, HB1s.out, by rw [HT.out]; exact HBs.out, HFs.out, HIk.out⟩
                case measure => simp [intOf]; omega
          · have HQ := Lib.hid (show l[nxi l.length k]? = some p0 by unfold nxi; rw [if_neg hn]; exact hp0)
            have hn' : ¬ (k : Int) + 1 < l.length := by omega
            obtain ⟨q, hq⟩ : ∃ q, q = p0 := ⟨_, rfl⟩
            go_upto_region 14 with fail
            rw [← hq] at HQ HN8 HA8 ⊢
            generalize hw9 : w8.alloc (.cells #[.int .i64 q.1, .int .i64 q.2.1, .int .i64 q.2.2] 23) = w9 at *
            have HB9 := Lib.hid HN8.out
            have HF9 := Lib.hid HA8.out
            clear hq hw9 x0 x1 x2 HP0 hp0
            have KQ := Lib.hid (fun W => rl_any q W)
            have HB19 := Lib.hid (HB18.out.fr HF9.out id)
            have HB59 := Lib.hid (HB58.out.fr HF9.out id)
            have HFr9 := Lib.hid (HF8.out.trans HF9.out)
            obtain ⟨b0, b1, b2, _, _, _⟩ := HB9.out.c3
            clear HB18 HB58 HF9 HF8 HN8 HA8
            rcases hzq : lie q with _ | _
            · have HS := Lib.hid (show S l (k + 1) = S l k by simp only [S]; rw [term_no hp HQ.out hzq]; omega)
              simp only [hzq] at KQ
              clear hzq
              go_wp2_with fail
              refine (KQ.out _).mono ?_
              rintro e wa ⟨rfl, hfa⟩
              have HB1a := Lib.hid (HB19.out.fr hfa id)
              have HB5a := Lib.hid (HB59.out.fr hfa id)
              have HFa := Lib.hid (HFr9.out.trans hfa)
              clear hfa b0 b1 b2
              go_wp2_with fail
              go_roundw
              case rel => exact ⟨k + 1, by omega, by go_num, HB1a.out, by rw [HS.out]; exact HB5a.out, HFa.out, HIk.out⟩
              case measure => simp [intOf]; omega
            · have HT := Lib.hid (show S l (k + 1) = S l k + tr p q by simp only [S]; rw [term_yes hp HQ.out hzq])
              have KX := Lib.hid (fun W => rcross_pq HZ.out hzq W)
              have KA := Lib.hid (fun W => WideD.add_any (S l k) (tr p q) W)
              simp only [hzq] at KQ
              clear hzq
              go_wp2_with fail
              refine (KQ.out _).mono ?_
              rintro e wa ⟨rfl, hfa⟩
              have HB1a := Lib.hid (HB19.out.fr hfa id)
              have HB5a := Lib.hid (HB59.out.fr hfa id)
              have HB9a := Lib.hid (HB9.out.fr hfa id)
              have HFa := Lib.hid (HFr9.out.trans hfa)
              have hg1a : w5.heap.size < wa.heap.size := HB1a.out.lt
              have hg2a : w6.heap.size < wa.heap.size := HB5a.out.lt
              have HWA := Lib.hid (show w8.heap.size < wa.heap.size from HB9a.out.lt)
              have HGA := Lib.hid (Nat.lt_of_lt_of_le hgg (Nat.le_of_lt HWA.out))
              have hgne : g ≠ w6.heap.size := by omega
              clear hfa b0 b1 b2
              generalize S l k = sn at *
              generalize tr p q = tn at *
              go_upto_region 15 with fail
              have KS := Lib.hid (fun W (h : Fr Nil wa W) => (show (W.cell? ⟨g, o + k * 3 + 1, none⟩ = some (.int .i64 p.2.1) ∧ W.cell? ⟨g, o + k * 3 + 2, none⟩ = some (.int .i64 p.2.2)) ∧ Bk W w8.heap.size 23 #[.int .i64 q.1, .int .i64 q.2.1, .int .i64 q.2.2] from ⟨(HP.out _ (HFa.out.trans h)).2, HB9a.out.fr h id⟩))
              refine wp_region_held (S := fun w' => (w'.cell? ⟨g, o + k * 3 + 1, none⟩ = some (.int .i64 p.2.1) ∧ w'.cell? ⟨g, o + k * 3 + 2, none⟩ = some (.int .i64 p.2.2)) ∧ Bk w' w8.heap.size 23 #[.int .i64 q.1, .int .i64 q.2.1, .int .i64 q.2.2]) (by kernel_rfl) ?_
              have fz0 : Fr Nil wa wa.drew := (Fr.refl Nil wa).drew
              change wpAnyH _ _ _ _ _ _ _ _ (World.drew _)
              refine wpAnyH_take (i := 1) (v := .slice (some ⟨g, o, none⟩) l.length c3) rfl (by kernel_rfl) (by kernel_rfl) (by kernel_rfl) (fun _ _ _ h => h) (Or.inl ⟨by rfl, fun w' hw' => by first | (go_simp; done) | (go_simp; rfl)⟩) (KS.out _ fz0) ?_
              (try simp only [Act.put, List.getElem_toArray, List.getElem_cons_zero, List.getElem_cons_succ, List.setIfInBounds_toArray, List.set_cons_zero, List.set_cons_succ])
              refine wpAnyH_take (i := 2) (v := .int .i64 k) rfl (by kernel_rfl) (by kernel_rfl) (by kernel_rfl) (fun _ _ _ h => h) (Or.inl ⟨by rfl, fun w' hw' => by first | (go_simp; done) | (go_simp; rfl)⟩) (KS.out _ fz0) ?_
              (try simp only [Act.put, List.getElem_toArray, List.getElem_cons_zero, List.getElem_cons_succ, List.setIfInBounds_toArray, List.set_cons_zero, List.set_cons_succ])
              refine wpAnyH_take (i := 3) (v := .pointer (some ⟨g, o + k * 3, none⟩)) rfl (by kernel_rfl) (by kernel_rfl) (by kernel_rfl) (fun _ _ _ h => h) (Or.inl ⟨by rfl, fun w' hw' => by first | (go_simp; done) | (go_simp; rfl)⟩) (KS.out _ fz0) ?_
              (try simp only [Act.put, List.getElem_toArray, List.getElem_cons_zero, List.getElem_cons_succ, List.setIfInBounds_toArray, List.set_cons_zero, List.set_cons_succ])
              refine wpAnyH_take (i := 4) (v := .pointer (some ⟨g, o + k * 3 + 1, none⟩)) rfl (by kernel_rfl) (by kernel_rfl) (by kernel_rfl) (fun _ _ _ h => h) (Or.inl ⟨by rfl, fun w' hw' => by first | (go_simp; done) | (go_simp; rfl)⟩) (KS.out _ fz0) ?_
              (try simp only [Act.put, List.getElem_toArray, List.getElem_cons_zero, List.getElem_cons_succ, List.setIfInBounds_toArray, List.set_cons_zero, List.set_cons_succ])
              refine wpAnyH_take (i := 5) (v := .int .i64 p.2.1) rfl (by kernel_rfl) (by kernel_rfl) (by kernel_rfl) (fun _ _ _ h => h) (Or.inl ⟨by rfl, fun w' hw' => by obtain ⟨z1, z2⟩ := hw'.1; first | (go_simp; done) | (go_simp; rfl)⟩) (KS.out _ fz0) ?_
              (try simp only [Act.put, List.getElem_toArray, List.getElem_cons_zero, List.getElem_cons_succ, List.setIfInBounds_toArray, List.set_cons_zero, List.set_cons_succ])
              refine wpAnyH_take (i := 6) (v := .pointer (some ⟨w8.heap.size, 2, none⟩)) rfl (by kernel_rfl) (by kernel_rfl) (by kernel_rfl) (fun _ _ _ h => h) (Or.inl ⟨by rfl, fun w' hw' => by first | (go_simp; done) | (go_simp; rfl)⟩) (KS.out _ fz0) ?_
              (try simp only [Act.put, List.getElem_toArray, List.getElem_cons_zero, List.getElem_cons_succ, List.setIfInBounds_toArray, List.set_cons_zero, List.set_cons_succ])
              refine wpAnyH_take (i := 7) (v := .int .i64 q.2.2) rfl (by kernel_rfl) (by kernel_rfl) (by kernel_rfl) (fun _ _ _ h => h) (Or.inl ⟨by rfl, fun w' hw' => by obtain ⟨z0, z1, z2, _⟩ := hw'.2.c3; first | (go_simp; done) | (go_simp; rfl)⟩) (KS.out _ fz0) ?_
              (try simp only [Act.put, List.getElem_toArray, List.getElem_cons_zero, List.getElem_cons_succ, List.setIfInBounds_toArray, List.set_cons_zero, List.set_cons_succ])
              refine wpAnyH_take (i := 8) (v := .pointer (some ⟨w8.heap.size, 1, none⟩)) rfl (by kernel_rfl) (by kernel_rfl) (by kernel_rfl) (fun _ _ _ h => h) (Or.inl ⟨by rfl, fun w' hw' => by first | (go_simp; done) | (go_simp; rfl)⟩) (KS.out _ fz0) ?_
              (try simp only [Act.put, List.getElem_toArray, List.getElem_cons_zero, List.getElem_cons_succ, List.setIfInBounds_toArray, List.set_cons_zero, List.set_cons_succ])
              refine wpAnyH_take (i := 9) (v := .int .i64 q.2.1) rfl (by kernel_rfl) (by kernel_rfl) (by kernel_rfl) (fun _ _ _ h => h) (Or.inl ⟨by rfl, fun w' hw' => by obtain ⟨z0, z1, z2, _⟩ := hw'.2.c3; first | (go_simp; done) | (go_simp; rfl)⟩) (KS.out _ fz0) ?_
              (try simp only [Act.put, List.getElem_toArray, List.getElem_cons_zero, List.getElem_cons_succ, List.setIfInBounds_toArray, List.set_cons_zero, List.set_cons_succ])
              refine wpAnyH_take (i := 10) (v := .slice (some ⟨g, o, none⟩) l.length c3) rfl (by kernel_rfl) (by kernel_rfl) (by kernel_rfl) (fun _ _ _ h => h) (Or.inl ⟨by rfl, fun w' hw' => by first | (go_simp; done) | (go_simp; rfl)⟩) (KS.out _ fz0) ?_
              (try simp only [Act.put, List.getElem_toArray, List.getElem_cons_zero, List.getElem_cons_succ, List.setIfInBounds_toArray, List.set_cons_zero, List.set_cons_succ])
              refine wpAnyH_take (i := 11) (v := .int .i64 k) rfl (by kernel_rfl) (by kernel_rfl) (by kernel_rfl) (fun _ _ _ h => h) (Or.inl ⟨by rfl, fun w' hw' => by first | (go_simp; done) | (go_simp; rfl)⟩) (KS.out _ fz0) ?_
              (try simp only [Act.put, List.getElem_toArray, List.getElem_cons_zero, List.getElem_cons_succ, List.setIfInBounds_toArray, List.set_cons_zero, List.set_cons_succ])
              refine wpAnyH_take (i := 12) (v := .pointer (some ⟨g, o + k * 3, none⟩)) rfl (by kernel_rfl) (by kernel_rfl) (by kernel_rfl) (fun _ _ _ h => h) (Or.inl ⟨by rfl, fun w' hw' => by first | (go_simp; done) | (go_simp; rfl)⟩) (KS.out _ fz0) ?_
              (try simp only [Act.put, List.getElem_toArray, List.getElem_cons_zero, List.getElem_cons_succ, List.setIfInBounds_toArray, List.set_cons_zero, List.set_cons_succ])
              refine wpAnyH_take (i := 13) (v := .pointer (some ⟨g, o + k * 3 + 2, none⟩)) rfl (by kernel_rfl) (by kernel_rfl) (by kernel_rfl) (fun _ _ _ h => h) (Or.inl ⟨by rfl, fun w' hw' => by first | (go_simp; done) | (go_simp; rfl)⟩) (KS.out _ fz0) ?_
              (try simp only [Act.put, List.getElem_toArray, List.getElem_cons_zero, List.getElem_cons_succ, List.setIfInBounds_toArray, List.set_cons_zero, List.set_cons_succ])
              refine wpAnyH_take (i := 14) (v := .int .i64 p.2.2) rfl (by kernel_rfl) (by kernel_rfl) (by kernel_rfl) (fun _ _ _ h => h) (Or.inl ⟨by rfl, fun w' hw' => by obtain ⟨z1, z2⟩ := hw'.1; first | (go_simp; done) | (go_simp; rfl)⟩) (KS.out _ fz0) ?_
              (try simp only [Act.put, List.getElem_toArray, List.getElem_cons_zero, List.getElem_cons_succ, List.setIfInBounds_toArray, List.set_cons_zero, List.set_cons_succ])
              refine wpAnyH_all (rs := [0, 15]) (by kernel_rfl) (by simp) (fun i hi => ?_)
              rcases (show i = 0 ∨ i = 15 by simpa using hi) with rfl | rfl
              · refine wpOp_loadT (n := 9) rfl rfl digits_row (HB5a.out.fr fz0 id) rfl ?_
                refine ⟨(KS.out _ fz0), ?_⟩
                clear hi
                (try simp only [Act.put, List.getElem_toArray, List.getElem_cons_zero, List.getElem_cons_succ, List.setIfInBounds_toArray, List.set_cons_zero, List.set_cons_succ])
                refine wpAnyH_all (rs := [15]) (by kernel_rfl) (by simp) (fun i hi => ?_)
                obtain rfl : i = 15 := by simpa using hi
                refine wpOp_step rfl (fun K hK => ?_)
                go_simp
                refine (KX.out _).mono ?_
                rintro e wz1 ⟨rfl, hfz1⟩
                have fz1 : Fr Nil _ _ := fz0.trans hfz1
                refine hK _ _ ⟨(KS.out _ fz1), ?_⟩
                clear hK K hi
                (try simp only [Act.put, List.getElem_toArray, List.getElem_cons_zero, List.getElem_cons_succ, List.setIfInBounds_toArray, List.set_cons_zero, List.set_cons_succ])
                refine wpAnyH_all (rs := [16]) (by kernel_rfl) (by simp) (fun i hi => ?_)
                obtain rfl : i = 16 := by simpa using hi
                refine wpOp_step rfl (fun K hK => ?_)
                go_simp
                refine (KA.out _).mono ?_
                rintro e wz2 ⟨rfl, hfz2⟩
                have fz2 : Fr Nil _ _ := fz1.trans hfz2
                refine hK _ _ ⟨(KS.out _ fz2), ?_⟩
                clear hK K hi
                (try simp only [Act.put, List.getElem_toArray, List.getElem_cons_zero, List.getElem_cons_succ, List.setIfInBounds_toArray, List.set_cons_zero, List.set_cons_succ])
                refine wpAnyH_all (rs := [17]) (by kernel_rfl) (by simp) (fun i hi => ?_)
                obtain rfl : i = 17 := by simpa using hi
                refine wpOp_storeT (n := 9) rfl rfl rfl digits_row (HB5a.out.fr fz2 id) rfl rfl (dcells_one _) ?_
                intro ws hbs hfs
                have HWs := Lib.hid (show g < wa.heap.size ∧ w8.heap.size ≠ w6.heap.size from ⟨HGA.out, by omega⟩)
                refine ⟨⟨⟨(hfs.cell (p := ⟨g, _, none⟩) (Nat.lt_of_lt_of_le HGA.out fz2.size) hgne).trans (KS.out _ fz2).1.1, (hfs.cell (p := ⟨g, _, none⟩) (Nat.lt_of_lt_of_le HGA.out fz2.size) hgne).trans (KS.out _ fz2).1.2⟩, (KS.out _ fz2).2.fr hfs HWs.out.2⟩, ?_⟩
                have HBs := Lib.hid hbs
                have HB1s := Lib.hid ((HB1a.out.fr fz2 id).fr hfs (by omega))
                have HFs := Lib.hid (Fr.then (HFa.out.trans fz2) hfs (fun k hk hlt => by omega))
                clear hbs hfs hi
                (try simp only [Act.put, List.getElem_toArray, List.getElem_cons_zero, List.getElem_cons_succ, List.setIfInBounds_toArray, List.set_cons_zero, List.set_cons_succ])
                refine wpAnyH_done (by kernel_rfl) ?_ _
                go_wp2_with fail
                go_roundw
                case rel => exact ⟨k + 1, by omega, by go_num, HB1s.out, by rw [HT.out]; exact HBs.out, HFs.out, HIk.out⟩
                case measure => simp [intOf]; omega
              · refine wpOp_step rfl (fun K hK => ?_)
                go_simp
                refine (KX.out _).mono ?_
                rintro e wz1 ⟨rfl, hfz1⟩
                have fz1 : Fr Nil _ _ := fz0.trans hfz1
                refine hK _ _ ⟨(KS.out _ fz1), ?_⟩
                clear hK K hi
                (try simp only [Act.put, List.getElem_toArray, List.getElem_cons_zero, List.getElem_cons_succ, List.setIfInBounds_toArray, List.set_cons_zero, List.set_cons_succ])
                refine wpAnyH_all (rs := [0]) (by kernel_rfl) (by simp) (fun i hi => ?_)
                obtain rfl : i = 0 := by simpa using hi
                refine wpOp_loadT (n := 9) rfl rfl digits_row (HB5a.out.fr fz1 id) rfl ?_
                refine ⟨(KS.out _ fz1), ?_⟩
                clear hi
                (try simp only [Act.put, List.getElem_toArray, List.getElem_cons_zero, List.getElem_cons_succ, List.setIfInBounds_toArray, List.set_cons_zero, List.set_cons_succ])
                refine wpAnyH_all (rs := [16]) (by kernel_rfl) (by simp) (fun i hi => ?_)
                obtain rfl : i = 16 := by simpa using hi
                refine wpOp_step rfl (fun K hK => ?_)
                go_simp
                refine (KA.out _).mono ?_
                rintro e wz2 ⟨rfl, hfz2⟩
                have fz2 : Fr Nil _ _ := fz1.trans hfz2
                refine hK _ _ ⟨(KS.out _ fz2), ?_⟩
                clear hK K hi
                (try simp only [Act.put, List.getElem_toArray, List.getElem_cons_zero, List.getElem_cons_succ, List.setIfInBounds_toArray, List.set_cons_zero, List.set_cons_succ])
                refine wpAnyH_all (rs := [17]) (by kernel_rfl) (by simp) (fun i hi => ?_)
                obtain rfl : i = 17 := by simpa using hi
                refine wpOp_storeT (n := 9) rfl rfl rfl digits_row (HB5a.out.fr fz2 id) rfl rfl (dcells_one _) ?_
                intro ws hbs hfs
                have HWs := Lib.hid (show g < wa.heap.size ∧ w8.heap.size ≠ w6.heap.size from ⟨HGA.out, by omega⟩)
                refine ⟨⟨⟨(hfs.cell (p := ⟨g, _, none⟩) (Nat.lt_of_lt_of_le HGA.out fz2.size) hgne).trans (KS.out _ fz2).1.1, (hfs.cell (p := ⟨g, _, none⟩) (Nat.lt_of_lt_of_le HGA.out fz2.size) hgne).trans (KS.out _ fz2).1.2⟩, (KS.out _ fz2).2.fr hfs HWs.out.2⟩, ?_⟩
                have HBs := Lib.hid hbs
                have HB1s := Lib.hid ((HB1a.out.fr fz2 id).fr hfs (by omega))
                have HFs := Lib.hid (Fr.then (HFa.out.trans fz2) hfs (fun k hk hlt => by omega))
                clear hbs hfs hi
                (try simp only [Act.put, List.getElem_toArray, List.getElem_cons_zero, List.getElem_cons_succ, List.setIfInBounds_toArray, List.set_cons_zero, List.set_cons_succ])
                refine wpAnyH_done (by kernel_rfl) ?_ _
                go_wp2_with fail
                go_roundw
                case rel => exact ⟨k + 1, by omega, by go_num, HB1s.out, by rw [HT.out]; exact HBs.out, HFs.out, HIk.out⟩
                case measure => simp [intOf]; omega
      · obtain rfl : k = l.length := by omega
        have hal : ∀ (j : Nat) p, l[j]? = some p → lie p = true := fun j p h => hlie j p (List.getElem?_eq_some_iff.1 h).1 h
        have hR := HR.out
        rcases hR with ⟨rfl, rfl, _⟩ | ⟨_, _, p, hp, hpl⟩
        rotate_left
        · obtain ⟨j, hj, rfl⟩ := List.getElem_of_mem hp
          exact absurd (hal j _ (List.getElem?_eq_getElem hj)) (by rw [hpl]; simp)
        have hS := S_in hl20 (Nat.le_refl l.length) (fun j p _ h => hal j p h)
        have kw := fun W => WideE.wide_any (S l l.length) W (by omega) (by omega)
        simp only [KernC.told_in (show -170141183460469231731687303715884105728 ≤ S l l.length ∧ S l l.length < 170141183460469231731687303715884105728 by omega), HH.out, HL'.out] at kw
        have KW := Lib.hid kw
        have KC := Lib.hid (fun W => WideF.cmp_any (S l l.length) 0 W (by omega) (by omega) (by omega) (by omega))
        have HAL := Lib.hid hal
        have HB1 := Lib.hid hb1
        have HB5 := Lib.hid hb2
        have HFr := Lib.hid hf
        have hg1 : w5.heap.size < wr.heap.size := hb1.lt
        have hg2 : w6.heap.size < wr.heap.size := hb2.lt
        clear kw hb1 hb2 hf hal hS hlie HR HH HL'
        go_wp2_with (first
          | (with_reducible refine wpList_loadT (dst := some 81) (n := 9) ?_ digits_row HB5.out rfl ?_); rfl)
        refine (KW.out _).mono ?_
        rintro e w10 ⟨rfl, hf10⟩
        have HX := Lib.hid (Bk.new w10 40 #[.int .i64 H, .int .u64 L])
        have HA := Lib.hid (hf10.alloc (.cells #[.int .i64 H, .int .u64 L] 40))
        have HB1z := Lib.hid (HB1.out.fr HA.out id)
        have HB5z := Lib.hid (HB5.out.fr HA.out id)
        have HFz := Lib.hid (HFr.out.trans HA.out)
        clear hf10 HA HB1 HB5 HFr KW
        go_upto_region 17 with fail
        generalize w10.alloc (.cells #[.int .i64 H, .int .u64 L] 40) = wz at *
        by_cases h3 : l.length = 3
        · obtain ⟨pa, ha⟩ : ∃ p, l[0]? = some p := ⟨l[0], List.getElem?_eq_getElem (by omega)⟩
          obtain ⟨pb, hb⟩ : ∃ p, l[1]? = some p := ⟨l[1], List.getElem?_eq_getElem (by omega)⟩
          obtain ⟨pd, hc⟩ : ∃ p, l[2]? = some p := ⟨l[2], List.getElem?_eq_getElem (by omega)⟩
          have kt := fun W => turn_p pa pb pd W
          simp only [turn3 ha hb hc h3 HAL.out] at kt
          have KT := Lib.hid kt
          rcases HV6.out with ⟨_, h0⟩ | ⟨g, o, cap, hve, hcc, hgg, hr⟩
          · subst h0; simp at h3
          simp only [Value.slice.injEq, true_and] at hve
          obtain ⟨rfl, rfl⟩ := hve
          have R0 := Lib.hid (fun W (h : ∃ p : FrW Nil wz, W = p.val) => show W.rangeAt g o (pc pa) by
            obtain ⟨p, rfl⟩ := h
            have := row_range (hr.fr (HFz.out.trans p.fr) hgg id) ha
            rwa [Nat.zero_mul, Nat.add_zero] at this)
          have R1 := Lib.hid (fun W (h : ∃ p : FrW Nil wz, W = p.val) => show W.rangeAt g (o + 3) (pc pb) by
            obtain ⟨p, rfl⟩ := h
            exact row_range (hr.fr (HFz.out.trans p.fr) hgg id) hb)
          have R2 := Lib.hid (fun W (h : ∃ p : FrW Nil wz, W = p.val) => show W.rangeAt g (o + 6) (pc pd) by
            obtain ⟨p, rfl⟩ := h
            exact row_range (hr.fr (HFz.out.trans p.fr) hgg id) hc)
          have R5 := Lib.hid (fun W (h : ∃ p : FrW Nil wz, W = p.val) => show Bk W w6.heap.size 44 (dcells (S l l.length)) by
            obtain ⟨p, rfl⟩ := h
            exact HB5z.out.fr p.fr id)
          clear kt ha hb hc hr
          obtain ⟨q0, q1⟩ := quiet_c2 (S := Nil) HB1z.out id
          obtain ⟨r0, r1⟩ := quiet_c2 (S := Nil) HX.out id
          generalize S l l.length = sn at *
          generalize WideF.cmpI sn 0 = z at *
          have h3' : (l.length : Int) = 3 := by omega
          have hne : (((l.length : Int)) != 3) = false := by simp [h3']
          clear h3
          refine wp_region_quiet_fr Nil (by kernel_rfl) (by kernel_rfl) ?_
          repeat (first
            | ((with_reducible refine wpQuiet_loadP (dst := some 101) (p := pa) ?_ ?_ R0.out ?_); rfl; rfl; simp only [Act.put, List.getElem_toArray, List.getElem_cons_zero, List.getElem_cons_succ, List.setIfInBounds_toArray, List.set_cons_zero, List.set_cons_succ])
            | ((with_reducible refine wpQuiet_loadP (dst := some 104) (p := pb) ?_ ?_ R1.out ?_); rfl; rfl; simp only [Act.put, List.getElem_toArray, List.getElem_cons_zero, List.getElem_cons_succ, List.setIfInBounds_toArray, List.set_cons_zero, List.set_cons_succ])
            | ((with_reducible refine wpQuiet_loadP (dst := some 107) (p := pd) ?_ ?_ R2.out ?_); rfl; rfl; simp only [Act.put, List.getElem_toArray, List.getElem_cons_zero, List.getElem_cons_succ, List.setIfInBounds_toArray, List.set_cons_zero, List.set_cons_succ])
            | ((with_reducible refine wpQuiet_loadD (dst := some 109) ?_ ?_ R5.out ?_); rfl; rfl; simp only [Act.put, List.getElem_toArray, List.getElem_cons_zero, List.getElem_cons_succ, List.setIfInBounds_toArray, List.set_cons_zero, List.set_cons_succ])
            | go_big_quiet_step (first
              | (go_at_call 7; with_reducible exact quiet_call (KT.out _))
              | (go_at_call 23; with_reducible exact quiet_call (KLD.out _))
              | (go_at_call 27; with_reducible exact quiet_call (KC.out _))
              | (go_at_call 11; with_reducible exact quiet_call (KV.out _))))
          refine wpQuiet_nil ?_
          intro _ hw'
          obtain ⟨⟨wq, hfq⟩, hw''⟩ := hw'
          subst hw''
          have HFq := Lib.hid (HF6.out.trans (HFz.out.trans hfq))
          clear hfq q0 q1 r0 r1
          go_wp2_with fail
          exact bodyPost_ret (v := .bool true) (by simp [results, Try.results6, go_sem]) rfl ⟨rfl, HFq.out⟩
        · obtain ⟨q0, q1⟩ := quiet_c2 (S := Nil) HB1z.out id
          obtain ⟨r0, r1⟩ := quiet_c2 (S := Nil) HX.out id
          have h3' : ¬ (l.length : Int) = 3 := by omega
          have hne : (((l.length : Int)) != 3) = true := by simpa using h3'
          clear h3
          refine wp_region_quiet_fr Nil (by kernel_rfl) (by kernel_rfl) ?_
          repeat (go_big_quiet_step (first | (go_at_call 11; with_reducible exact quiet_call (KV.out _))))
          refine wpQuiet_nil ?_
          intro _ hw'
          obtain ⟨⟨wq, hfq⟩, hw''⟩ := hw'
          subst hw''
          have HFq := Lib.hid (HF6.out.trans (HFz.out.trans hfq))
          clear hfq q0 q1 r0 r1
          go_wp2_with fail
          exact bodyPost_ret (v := .bool true) (by simp [results, Try.results6, go_sem]) rfl ⟨rfl, HFq.out⟩
end Go.Proofs.Ytpngeaklfjofiaa.AreaE
