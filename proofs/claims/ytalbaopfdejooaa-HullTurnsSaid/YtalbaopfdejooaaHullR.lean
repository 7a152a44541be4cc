/- Chapter 41: the walk of the reference's Of. -/
import Derived.Test.YtalbaopfdejooaaHullQ
namespace Go.Proofs.Ytalbaopfdejooaa.HullR
open Go.RowKit Base Slices RowsA KernA KernE AreaA HullC HullD HullE HullF HullG HullH HullI HullJ HullM HullN HullO HullP HullQ Quiet
open HullA (lt at_ D)
open HullB (Inner)
set_option linter.unusedVariables false
set_option linter.unusedSimpArgs false

/-- what there is behind so many -/
def Half (P : List Pn) (k : Nat) (S : List Pn) : Prop := (k = 0 ∧ S = []) ∨ (1 ≤ k ∧ Sofar P k S)
theorem half_pass {P S : List Pn} {k : Nat} {x : Pn} (hs : HullA.Ord P) (h : Half P k S) (hx : P[k]? = some x) (hi : Inner P x) : Half P (k + 1) S := by
  rcases h with ⟨rfl, rfl⟩ | ⟨h1, h2⟩
  · exact absurd hi (first_corner hs (by rw [List.head?_eq_getElem?]; exact hx))
  · exact Or.inr ⟨by omega, h2.pass hx hi⟩
theorem half_more {P S : List Pn} {k n : Nat} {x : Pn} (hs : HullA.Ord P) (h : Half P k S) (hx : P[k]? = some x) (hi : ¬ Inner P x) (hn : n ≤ S.length)
    (hb : ∀ (j : Nat) y, n ≤ j → S[j]? = some y → ∀ t, P.head? = some t → D t y x < 0) (h1 : S = [] ∨ 1 ≤ n) (ha : n ≤ 1 ∨ ∃ y t, S[n - 1]? = some y ∧ P.head? = some t ∧ ¬ D t y x < 0) : Half P (k + 1) (S.take n ++ [x] ++ S.drop n) := by
  rcases h with ⟨rfl, rfl⟩ | ⟨h1', h2⟩
  · simp only [List.take_nil, List.drop_nil, List.nil_append, List.append_nil]
    exact Or.inr ⟨by omega, Sofar.start (by rw [List.head?_eq_getElem?]; exact hx)⟩
  · have hne : S ≠ [] := by
      obtain ⟨t, r, e, _⟩ := h2
      rw [e]; simp
    have hn1 : 1 ≤ n := h1.resolve_left hne
    refine Or.inr ⟨by omega, ?_⟩
    have := h2.more hs h1' hx hi hn1 hn hb (by
      rcases ha with h | h
      · exact Or.inl (by omega)
      · exact Or.inr h)
    simpa using this
theorem half_len {P S : List Pn} {k : Nat} (hs : HullA.Ord P) (h : Half P k S) : S.length ≤ P.length ∧ (∀ y ∈ S, y ∈ P) ∧ (∀ y, S[0]? = some y → P.head? = some y) := by
  rcases h with ⟨rfl, rfl⟩ | ⟨h1, t, r, rfl, ht, hp, hm⟩
  · simp
  · have hsub : ∀ y ∈ t :: r, y ∈ P := by
      intro x hx
      rcases List.mem_cons.1 hx with rfl | hx
      · exact List.mem_of_head? ht
      · exact List.mem_of_mem_take ((hm x).1 hx).1
    refine ⟨HullL.nodup_len ?_ hsub, hsub, fun y hy => by simp at hy; rw [ht, hy]⟩
    refine List.nodup_cons.2 ⟨fun h => ((hm t).1 h).2.1 rfl, List.Pairwise.imp (fun {a b} hab e => ?_) hp⟩
    subst e
    unfold Lf at hab
    have := (HullA.D_self t a).2.1
    omega
theorem half_end {P S l : List Pn} (hl : IsPl l P) (h : Half P P.length S) : HullOf l S := by
  rcases h with ⟨h1, rfl⟩ | ⟨h1, h2⟩
  · exact ⟨P, hl, Or.inl ⟨List.length_eq_zero_iff.1 h1, rfl⟩⟩
  · exact ⟨P, hl, Or.inr h2.round⟩

set_option maxRecDepth 100000 in
set_option maxHeartbeats 16000000 in
theorem rof_any (l : List Pn) (v : Value) (w : World) (hl : l.length ≤ 500) (hlie : ∀ p ∈ l, lie p = true) (hv : Sl EPt w v l) :
    Calls Try.prog 14 #[v] w fun e w' => ∃ u h, e = .returned u ∧ Fr Nil w w' ∧ Own EPt w' w.heap.size u h ∧ HullOf l h := by
  have K := Lib.hid (places_any l v w hl hv)
  clear hv
  go_enter Try.func14, Try.ntmps14
  go_wp2_with fail
  refine K.out.mono ?_
  rintro e w0 ⟨us, P, rfl, hf0, hs0, hP⟩
  have HPL := Lib.hid hP
  have HORD := Lib.hid hP.1
  have HLIE := Lib.hid (fun x (hx : x ∈ P) => hlie x (hP.2.1 x hx).1)
  have HF0 := Lib.hid hf0
  have hpl : P.length ≤ 500 := Nat.le_trans (HullL.nodup_len (HullL.ord_nodup hP.1) (fun x hx => (hP.2.1 x hx).1)) hl
  have hsl := hs0.sl EPt_ok
  have hbase := HF0.out.size
  clear hP hf0 K hlie hs0
  rcases hsl with ⟨rfl, rfl⟩ | ⟨g, o, cap, rfl, hc, ha, hr⟩
  · go_wp2_with fail
    refine wp_loop_rounds 1 ?_
    rw [rounds_succ]
    go_wp2_with fail
    go_ret
    exact ⟨_, [], rfl, HF0.out.alloc _, Own.made (E := EPt) hbase rfl, half_end HPL.out (Or.inl ⟨rfl, rfl⟩)⟩
  have HR := Lib.hid hr
  clear hr
  go_wp2_with fail
  go_loopw [4, 5] (fun v i wr => ∃ (k : Nat) (S : List Pn), k ≤ P.length ∧ i = .int .i64 k ∧ Own EPt wr w.heap.size v S ∧ Half P k S ∧ v ≠ .slice none 0 0 ∧ Fr Nil w0 wr) (fun _ i _ => P.length - (intOf i).toNat)
  case atStart => exact ⟨0, [], by omega, rfl, Own.made (E := EPt) hbase rfl, Or.inl ⟨rfl, rfl⟩, by simp, (Fr.refl _ _).alloc _⟩
  case round =>
    obtain ⟨j, S, hj, rfl, hs, hh, hn, hf⟩ := hrel
    have HH := Lib.hid hh
    have HF := Lib.hid hf
    have HS := Lib.hid hs
    rcases hs.sl EPt_ok with ⟨e, _⟩ | ⟨g2, o2, cap2, rfl, hc2, ha2, hr2⟩
    · exact absurd e hn
    have hsz := HF.out.size
    have HR2 := Lib.hid hr2
    obtain ⟨hSl, hSm, hS0⟩ := half_len HORD.out hh
    have HSM := Lib.hid hSm
    have HS0 := Lib.hid hS0
    clear hr2 hs hh hf hSm hS0
    by_cases hlt : j < P.length
    · obtain ⟨x, hp⟩ : ∃ x, P[j]? = some x := ⟨P[j], List.getElem?_eq_getElem hlt⟩
      have HP := Lib.hid hp
      obtain ⟨c0, c1, c2⟩ := pt_at (HR.out.fr HF.out ha id) hp
      have HXL := Lib.hid (HLIE.out x (List.mem_of_getElem? hp))
      have KI := Lib.hid (fun W h => inner_any P x (.slice (some ⟨g, o, none⟩) P.length cap) W (by omega) h)
      have KV := Lib.hid (show Sl EPt wr (.slice (some ⟨g, o, none⟩) P.length cap) P from Or.inr ⟨g, o, cap, rfl, hc, by omega, HR.out.fr HF.out ha id⟩)
      have hj0 : (0 : Int) ≤ j := by omega
      have hj1 : (j : Int) < P.length := by omega
      have HN := Lib.hid hn
      clear hp hn
      go_wp2_with fail
      refine (KI.out _ KV.out).mono ?_
      rintro e w1 ⟨r, rfl, hf1, hri⟩
      have HF1 := Lib.hid (HF.out.trans hf1)
      have HFA := Lib.hid hf1
      have HRI := Lib.hid (hri.trans (hits_iff HORD.out HLIE.out HXL.out))
      clear hf1 hri KI KV c0 c1 c2
      rcases r with _ | _
      case true =>
        have HE := Lib.hid (half_pass HORD.out HH.out HP.out (HRI.out.1 rfl))
        have HO1 := Lib.hid (HS.out.fr HFA.out (fun _ _ h => h))
        go_wp2_with fail
        go_roundw
        case rel => exact ⟨j + 1, S, by omega, by go_num, HO1.out, HE.out, HN.out, HF1.out⟩
        case measure => simp [intOf]; omega
      have HNI := Lib.hid (show ¬ Inner P x from fun h => by have := HRI.out.2 h; cases this)
      have ha2' : g2 < w1.heap.size := Nat.lt_of_lt_of_le ha2 HFA.out.size
      have HR2' := Lib.hid (HR2.out.fr HFA.out ha2 id)
      have HR' := Lib.hid (HR.out.fr HF1.out ha id)
      have hgl : g < w1.heap.size := Nat.lt_of_lt_of_le ha HF1.out.size
      have hsz1 := HF1.out.size
      clear HR2 HS HRI HFA HF
      go_wp2_with fail
      go_loopw [6] (fun i wr => ∃ n : Nat, n ≤ S.length ∧ (S = [] ∨ 1 ≤ n) ∧ i = .int .i64 n ∧ (∀ (j : Nat) y, n ≤ j → S[j]? = some y → ∀ t, P.head? = some t → D t y x < 0) ∧ Fr Nil w1 wr) (fun i _ => (intOf i).toNat)
      case atStart => exact ⟨S.length, Nat.le_refl _, by cases S with | nil => exact Or.inl rfl | cons => exact Or.inr (by simp), rfl, (fun n y h e => by rw [List.getElem?_eq_none h] at e; cases e), Fr.refl _ _⟩
      case round =>
        obtain ⟨k, hk, hk1, rfl, hle, hf⟩ := hrel
        have HLE := Lib.hid hle
        have HF := Lib.hid hf
        have HK1 := Lib.hid hk1
        clear hle hf hk1
        have hk0 : (0 : Int) ≤ k := by omega
        by_cases hkj : 1 < k
        · obtain ⟨n, rfl⟩ : ∃ n, k = n + 1 := ⟨k - 1, by omega⟩
          obtain ⟨t, ht⟩ : ∃ t, S[0]? = some t := ⟨S[0]'(by omega), List.getElem?_eq_getElem _⟩
          obtain ⟨y, hy⟩ : ∃ y, S[n]? = some y := ⟨S[n]'(by omega), List.getElem?_eq_getElem _⟩
          obtain ⟨a0, a1, a2⟩ := pt_at (HR2'.out.fr HF.out ha2' id) ht
          simp only [Nat.zero_mul, Nat.add_zero] at a0 a1 a2
          obtain ⟨b0, b1, b2⟩ := pt_at (HR2'.out.fr HF.out ha2' id) hy
          obtain ⟨c0, c1, c2⟩ := pt_at (HR'.out.fr HF.out hgl id) HP.out
          have qa0 := fun (z : FrW Nil wr) => cell_q a0 z
          have qa1 := fun (z : FrW Nil wr) => cell_q a1 z
          have qa2 := fun (z : FrW Nil wr) => cell_q a2 z
          have qb0 := fun (z : FrW Nil wr) => cell_q b0 z
          have qb1 := fun (z : FrW Nil wr) => cell_q b1 z
          have qb2 := fun (z : FrW Nil wr) => cell_q b2 z
          have qc0 := fun (z : FrW Nil wr) => cell_q c0 z
          have qc1 := fun (z : FrW Nil wr) => cell_q c1 z
          have qc2 := fun (z : FrW Nil wr) => cell_q c2 z
          have KT := fun W => rturn_any t y x W
          obtain ⟨z, hz⟩ : ∃ z, tD t y x = z := ⟨_, rfl⟩
          rw [hz] at KT
          have HT := Lib.hid (HS0.out t ht)
          have HY := Lib.hid hy
          have HZ := Lib.hid (show z < 0 ↔ D t y x < 0 by rw [← hz]; exact tD_neg (HLIE.out t (HSM.out t (List.mem_of_getElem? ht))) (HLIE.out y (HSM.out y (List.mem_of_getElem? hy))) HXL.out)
          replace KT := Lib.hid KT
          have e1 : (((n + 1 : Nat)) : Int) = (n : Int) + 1 := by omega
          have e2 : (n : Int) + 1 - 1 = n := by omega
          have e3 : (1 : Int) < (n : Int) + 1 := by omega
          have e4 : (0 : Int) ≤ n := by omega
          have e6 : (n : Int) < S.length := by omega
          have e7 : (0 : Int) < S.length := by omega
          have HE1 := Lib.hid e1
          rw [e1]
          clear ht hy hz e1
          go_wp2_with fail
          refine wp_region_quiet_fr Nil (by kernel_rfl) (by kernel_rfl) ?_
          iterate 3 (go_big_quiet_step (fail))
          try simp only [show decide ((1 : Int) < (n : Int) + 1) = true from decide_eq_true e3]
          repeat (go_big_quiet_step (first
            | (go_at_call 24; with_reducible exact quiet_call (KT.out _))))
          refine wpQuiet_nil ?_
          intro w2 hw'
          obtain ⟨⟨wq, hfq⟩, hw''⟩ := hw'
          subst hw''
          have HF2 := Lib.hid (HF.out.trans hfq)
          clear a0 a1 a2 b0 b1 b2 c0 c1 c2 qa0 qa1 qa2 qb0 qb1 qb2 qc0 qc1 qc2 hfq HF KT
          by_cases hz0 : z < 0
          · have HD := Lib.hid (HZ.out.1 hz0)
            go_wp2_with fail
            go_roundw
            case rel =>
              refine ⟨n, by omega, Or.inr (by omega), by go_num, fun j' t' hj' ht' t'' ht'' => ?_, HF2.out⟩
              rcases Nat.lt_or_ge n j' with h | h
              · exact HLE.out j' t' (by omega) ht' t'' ht''
              · obtain rfl : j' = n := by omega
                have e := HY.out
                rw [ht'] at e
                obtain rfl := Option.some.inj e
                have e' := HT.out
                rw [ht''] at e'
                obtain rfl := Option.some.inj e'
                exact HD.out
            case measure => simp [intOf]
          · have HI := Lib.hid (half_more HORD.out HH.out HP.out HNI.out hk HLE.out HK1.out (Or.inr ⟨y, t, HY.out, HT.out, fun h => hz0 (HZ.out.2 h)⟩))
            rw [← HE1.out]
            generalize hkn : n + 1 = k at *
            have HKN := Lib.hid hkn
            clear hkn e2 e3 HE1 HT
            have hkc : (k : Int) ≤ cap2 := by omega
            have hkl : (k : Int) ≤ S.length := by omega
            have HFW := Lib.hid (HF1.out.trans HF2.out)
            have hlS : (S.take k).length = k := by rw [List.length_take]; omega
            have hlD : (S.drop k).length = S.length - k := by rw [List.length_drop]
            have HT := Lib.hid (show Sl EPt w2 (.slice (some ⟨g2, o2, none⟩) k cap2) (S.take k) from (head_sl k hc2 hk ha2' HR2'.out).fr HF2.out)
            have HD := Lib.hid ((tail_sl k hc2 hk ha2' HR2'.out).fr HF2.out)
            have LL := Lib.hid (show (([] : List Pn).length + (S.take k).length ≤ 1000000) ∧ (([] ++ S.take k).length + [x].length ≤ 1000000) ∧ (([] ++ S.take k ++ [x]).length + (S.drop k).length ≤ 1000000) by rw [hlD]; simp [hlS]; omega)
            obtain ⟨c0, c1, c2⟩ := pt_at (HR.out.fr HFW.out ha id) HP.out
            have hbs : w.heap.size ≤ w2.heap.size := by have := HFW.out.size; omega
            clear hlS hlD
            go_wp2_with fail
            have O1 := Lib.hid (show Own EPt ((w2.alloc (.cells #[] 34)).drew) w2.heap.size (.slice (some ⟨w2.heap.size, 0, none⟩) 0 0) [] from Own.fr (Own.made (E := EPt) (Nat.le_refl _) rfl) ((Fr.refl Nil _).drew) (fun _ _ h => h))
            have R1 := Lib.hid (show Fr Nil w2 ((w2.alloc (.cells #[] 34)).drew) by (repeat' (with_reducible first | refine Fr.setCell ?_ (fun hlt => absurd hlt (by dsimp only; omega)) _ | refine Fr.alloc ?_ _ | refine Fr.drewN ?_ _ | refine Fr.drew ?_ | exact Fr.refl _ _)))
            have T1 := Lib.hid (Sl.fr HT.out R1.out)
            have B1 := Lib.hid (show w2.heap.size ≤ ((w2.alloc (.cells #[] 34)).drew).heap.size by simp <;> omega)
            have O2 := Lib.hid (show Own EPt (((w2.alloc (.cells #[] 34)).alloc (.cells #[.int .i64 x.1, .int .i64 x.2.1, .int .i64 x.2.2] 34)).drew) w2.heap.size (.slice (some ⟨w2.heap.size, 0, none⟩) 0 0) [] from Own.fr ((Own.made (E := EPt) (Nat.le_refl _) rfl).alloc _) ((Fr.refl Nil _).drew) (fun _ _ h => h))
            have R2 := Lib.hid (show Fr Nil w2 (((w2.alloc (.cells #[] 34)).alloc (.cells #[.int .i64 x.1, .int .i64 x.2.1, .int .i64 x.2.2] 34)).drew) by (repeat' (with_reducible first | refine Fr.setCell ?_ (fun hlt => absurd hlt (by dsimp only; omega)) _ | refine Fr.alloc ?_ _ | refine Fr.drewN ?_ _ | refine Fr.drew ?_ | exact Fr.refl _ _)))
            have T2 := Lib.hid (Sl.fr HT.out R2.out)
            have B2 := Lib.hid (show w2.heap.size ≤ (((w2.alloc (.cells #[] 34)).alloc (.cells #[.int .i64 x.1, .int .i64 x.2.1, .int .i64 x.2.2] 34)).drew).heap.size by simp <;> omega)
            have O3 := Lib.hid (show Own EPt (((w2.alloc (.cells #[.int .i64 x.1, .int .i64 x.2.1, .int .i64 x.2.2] 34)).alloc (.cells #[] 34)).drew) w2.heap.size (.slice (some ⟨w2.heap.size + 1, 0, none⟩) 0 0) [] from Own.fr (Own.made (E := EPt) (by simp) (by simp)) ((Fr.refl Nil _).drew) (fun _ _ h => h))
            have R3 := Lib.hid (show Fr Nil w2 (((w2.alloc (.cells #[.int .i64 x.1, .int .i64 x.2.1, .int .i64 x.2.2] 34)).alloc (.cells #[] 34)).drew) by (repeat' (with_reducible first | refine Fr.setCell ?_ (fun hlt => absurd hlt (by dsimp only; omega)) _ | refine Fr.alloc ?_ _ | refine Fr.drewN ?_ _ | refine Fr.drew ?_ | exact Fr.refl _ _)))
            have T3 := Lib.hid (Sl.fr HT.out R3.out)
            have B3 := Lib.hid (show w2.heap.size ≤ (((w2.alloc (.cells #[.int .i64 x.1, .int .i64 x.2.1, .int .i64 x.2.2] 34)).alloc (.cells #[] 34)).drew).heap.size by simp <;> omega)
            have S2 := Lib.hid (show Sl EPt (((w2.alloc (.cells #[] 34)).alloc (.cells #[.int .i64 x.1, .int .i64 x.2.1, .int .i64 x.2.2] 34)).drew) (.slice (some ⟨w2.heap.size + 1, 0, none⟩) 1 1) [x] from Sl.fr (one_sl' x (by simp)) ((Fr.refl Nil _).drew))
            have S3 := Lib.hid (show Sl EPt (((w2.alloc (.cells #[.int .i64 x.1, .int .i64 x.2.1, .int .i64 x.2.2] 34)).alloc (.cells #[] 34)).drew) (.slice (some ⟨w2.heap.size, 0, none⟩) 1 1) [x] from Sl.fr (Sl.fr (one_sl' x rfl) ((Fr.refl Nil _).alloc _)) ((Fr.refl Nil _).drew))
            go_region_held3 (fun w' => w'.cell? ⟨g, o + j * 3, none⟩ = some (.int .i64 x.1) ∧ w'.cell? ⟨g, o + j * 3 + 1, none⟩ = some (.int .i64 x.2.1) ∧ w'.cell? ⟨g, o + j * 3 + 2, none⟩ = some (.int .i64 x.2.2)) (first | (go_keep; done))
              (first | (rw [if_pos (by rfl)]; refine Slices.wp_app EPt_ok (.tmp 44) (.tmp 47) 22 rfl rfl w2.heap.size (.slice (some ⟨w2.heap.size, 0, none⟩) 0 0) (.slice (some ⟨g2, o2, none⟩) k cap2) ([]) (S.take k) rfl O1.out rfl (T1.out).come LL.out.1 B1.out ?_; intro v14 w14 h14 f14 b14 n14; have F14 : Fr Nil w2 w14 := Fr.then (R1.out) f14 (fun i hi hlt => by have := ((O1.out).lt i hi).1; omega); obtain ⟨y14, z14, u14⟩ := pt_at (Row.fr HR.out (HFW.out.trans F14) ha id) HP.out) | (rw [if_pos (by rfl)]; refine Slices.wp_app EPt_ok (.tmp 44) (.tmp 47) 22 rfl rfl w2.heap.size (.slice (some ⟨w2.heap.size, 0, none⟩) 0 0) (.slice (some ⟨g2, o2, none⟩) k cap2) ([]) (S.take k) rfl O2.out rfl (T2.out).come LL.out.1 B2.out ?_; intro v14 w14 h14 f14 b14 n14; have F14 : Fr Nil w2 w14 := Fr.then (R2.out) f14 (fun i hi hlt => by have := ((O2.out).lt i hi).1; omega); obtain ⟨y14, z14, u14⟩ := pt_at (Row.fr HR.out (HFW.out.trans F14) ha id) HP.out; have s16 := Sl.frS S2.out f14 (fun g hg hh => by have h1 := Option.some.inj hg; have h2 := Option.some.inj hh; dsimp only at h1 h2; omega)) | (rw [if_pos (by rfl)]; refine Slices.wp_app EPt_ok (.tmp 44) (.tmp 47) 22 rfl rfl w2.heap.size (.slice (some ⟨w2.heap.size + 1, 0, none⟩) 0 0) (.slice (some ⟨g2, o2, none⟩) k cap2) ([]) (S.take k) rfl O3.out rfl (T3.out).come LL.out.1 B3.out ?_; intro v14 w14 h14 f14 b14 n14; have F14 : Fr Nil w2 w14 := Fr.then (R3.out) f14 (fun i hi hlt => by have := ((O3.out).lt i hi).1; omega); obtain ⟨y14, z14, u14⟩ := pt_at (Row.fr HR.out (HFW.out.trans F14) ha id) HP.out; have s16 := Sl.frS S3.out f14 (fun g hg hh => by have h1 := Option.some.inj hg; have h2 := Option.some.inj hh; dsimp only at h1 h2; omega)) | (rw [if_pos (by rfl)]; refine Slices.wp_app EPt_ok (.tmp 48) (.tmp 53) 22 rfl rfl w2.heap.size v14 _ ([] ++ S.take k) ([x]) rfl h14 rfl (s16).come LL.out.2.1 F14.size ?_; intro v17 w17 h17 f17 b17 n17; have F17 : Fr Nil w2 w17 := Fr.then (F14) f17 (fun i hi hlt => by have := ((h14).lt i hi).1; omega); obtain ⟨y17, z17, u17⟩ := pt_at (Row.fr HR.out (HFW.out.trans F17) ha id) HP.out) | (rw [if_pos (by rfl)]; refine Slices.wp_app EPt_ok (.tmp 48) (.tmp 53) 22 rfl rfl w2.heap.size v14 _ ([] ++ S.take k) ([x]) rfl (Own.alloc h14 _) rfl (one_sl' x rfl).come LL.out.2.1 (F14.alloc _).size ?_; intro v17 w17 h17 f17 b17 n17; have F17 : Fr Nil w2 w17 := Fr.then (F14.alloc _) f17 (fun i hi hlt => by have := ((h14).lt i hi).1; omega); obtain ⟨y17, z17, u17⟩ := pt_at (Row.fr HR.out (HFW.out.trans F17) ha id) HP.out) | (rw [if_pos (by rfl)]; refine Slices.wp_app EPt_ok (.tmp 54) (.tmp 57) 22 rfl rfl w2.heap.size v17 _ ([] ++ S.take k ++ [x]) (S.drop k) rfl h17 rfl (Sl.fr HD.out F17).come LL.out.2.2 F17.size ?_; intro v21 w21 h21 f21 b21 n21; have F21 : Fr Nil w2 w21 := Fr.then (F17) f21 (fun i hi hlt => by have := ((h17).lt i hi).1; omega); obtain ⟨y21, z21, u21⟩ := pt_at (Row.fr HR.out (HFW.out.trans F21) ha id) HP.out))
            all_goals go_wp2_with fail
            all_goals
              go_roundw
              case rel => exact ⟨j + 1, _, by omega, by go_num, (by have h := Own.weaken (b' := w.heap.size) h21 hbs; simpa using h), (by simpa using HI.out), (fun e => by have h1 := n14 (n17 (n21 e)); cases h1), HFW.out.trans F21⟩
              case measure => simp [intOf]; omega
        · have HI := Lib.hid (half_more HORD.out HH.out HP.out HNI.out hk HLE.out HK1.out (Or.inl (by omega)))
          have hkj' : ¬ ((1 : Int) < k) := by omega
          go_wp2_with fail
          refine wp_region_quiet_fr Nil (by kernel_rfl) (by kernel_rfl) ?_
          iterate 3 (go_big_quiet_step (fail))
          try simp only [show decide ((1 : Int) < (k : Int)) = false from decide_eq_false (by omega)]
          try simp only [show decide (1 < k) = false from decide_eq_false hkj]
          repeat (go_big_quiet_step (fail))
          refine wpQuiet_nil ?_
          intro w2 hw'
          obtain ⟨⟨wq, hfq⟩, hw''⟩ := hw'
          subst hw''
          have HF2 := Lib.hid (HF.out.trans hfq)
          clear hfq HF
          have hkc : (k : Int) ≤ cap2 := by omega
          have hkl : (k : Int) ≤ S.length := by omega
          have HFW := Lib.hid (HF1.out.trans HF2.out)
          have hlS : (S.take k).length = k := by rw [List.length_take]; omega
          have hlD : (S.drop k).length = S.length - k := by rw [List.length_drop]
          have HT := Lib.hid (show Sl EPt w2 (.slice (some ⟨g2, o2, none⟩) k cap2) (S.take k) from (head_sl k hc2 hk ha2' HR2'.out).fr HF2.out)
          have HD := Lib.hid ((tail_sl k hc2 hk ha2' HR2'.out).fr HF2.out)
          have LL := Lib.hid (show (([] : List Pn).length + (S.take k).length ≤ 1000000) ∧ (([] ++ S.take k).length + [x].length ≤ 1000000) ∧ (([] ++ S.take k ++ [x]).length + (S.drop k).length ≤ 1000000) by rw [hlD]; simp [hlS]; omega)
          obtain ⟨c0, c1, c2⟩ := pt_at (HR.out.fr HFW.out ha id) HP.out
          have hbs : w.heap.size ≤ w2.heap.size := by have := HFW.out.size; omega
          clear hlS hlD
          go_wp2_with fail
          have O1 := Lib.hid (show Own EPt ((w2.alloc (.cells #[] 34)).drew) w2.heap.size (.slice (some ⟨w2.heap.size, 0, none⟩) 0 0) [] from Own.fr (Own.made (E := EPt) (Nat.le_refl _) rfl) ((Fr.refl Nil _).drew) (fun _ _ h => h))
          have R1 := Lib.hid (show Fr Nil w2 ((w2.alloc (.cells #[] 34)).drew) by (repeat' (with_reducible first | refine Fr.setCell ?_ (fun hlt => absurd hlt (by dsimp only; omega)) _ | refine Fr.alloc ?_ _ | refine Fr.drewN ?_ _ | refine Fr.drew ?_ | exact Fr.refl _ _)))
          have T1 := Lib.hid (Sl.fr HT.out R1.out)
          have B1 := Lib.hid (show w2.heap.size ≤ ((w2.alloc (.cells #[] 34)).drew).heap.size by simp <;> omega)
          have O2 := Lib.hid (show Own EPt (((w2.alloc (.cells #[] 34)).alloc (.cells #[.int .i64 x.1, .int .i64 x.2.1, .int .i64 x.2.2] 34)).drew) w2.heap.size (.slice (some ⟨w2.heap.size, 0, none⟩) 0 0) [] from Own.fr ((Own.made (E := EPt) (Nat.le_refl _) rfl).alloc _) ((Fr.refl Nil _).drew) (fun _ _ h => h))
          have R2 := Lib.hid (show Fr Nil w2 (((w2.alloc (.cells #[] 34)).alloc (.cells #[.int .i64 x.1, .int .i64 x.2.1, .int .i64 x.2.2] 34)).drew) by (repeat' (with_reducible first | refine Fr.setCell ?_ (fun hlt => absurd hlt (by dsimp only; omega)) _ | refine Fr.alloc ?_ _ | refine Fr.drewN ?_ _ | refine Fr.drew ?_ | exact Fr.refl _ _)))
          have T2 := Lib.hid (Sl.fr HT.out R2.out)
          have B2 := Lib.hid (show w2.heap.size ≤ (((w2.alloc (.cells #[] 34)).alloc (.cells #[.int .i64 x.1, .int .i64 x.2.1, .int .i64 x.2.2] 34)).drew).heap.size by simp <;> omega)
          have O3 := Lib.hid (show Own EPt (((w2.alloc (.cells #[.int .i64 x.1, .int .i64 x.2.1, .int .i64 x.2.2] 34)).alloc (.cells #[] 34)).drew) w2.heap.size (.slice (some ⟨w2.heap.size + 1, 0, none⟩) 0 0) [] from Own.fr (Own.made (E := EPt) (by simp) (by simp)) ((Fr.refl Nil _).drew) (fun _ _ h => h))
          have R3 := Lib.hid (show Fr Nil w2 (((w2.alloc (.cells #[.int .i64 x.1, .int .i64 x.2.1, .int .i64 x.2.2] 34)).alloc (.cells #[] 34)).drew) by (repeat' (with_reducible first | refine Fr.setCell ?_ (fun hlt => absurd hlt (by dsimp only; omega)) _ | refine Fr.alloc ?_ _ | refine Fr.drewN ?_ _ | refine Fr.drew ?_ | exact Fr.refl _ _)))
          have T3 := Lib.hid (Sl.fr HT.out R3.out)
          have B3 := Lib.hid (show w2.heap.size ≤ (((w2.alloc (.cells #[.int .i64 x.1, .int .i64 x.2.1, .int .i64 x.2.2] 34)).alloc (.cells #[] 34)).drew).heap.size by simp <;> omega)
          have S2 := Lib.hid (show Sl EPt (((w2.alloc (.cells #[] 34)).alloc (.cells #[.int .i64 x.1, .int .i64 x.2.1, .int .i64 x.2.2] 34)).drew) (.slice (some ⟨w2.heap.size + 1, 0, none⟩) 1 1) [x] from Sl.fr (one_sl' x (by simp)) ((Fr.refl Nil _).drew))
          have S3 := Lib.hid (show Sl EPt (((w2.alloc (.cells #[.int .i64 x.1, .int .i64 x.2.1, .int .i64 x.2.2] 34)).alloc (.cells #[] 34)).drew) (.slice (some ⟨w2.heap.size, 0, none⟩) 1 1) [x] from Sl.fr (Sl.fr (one_sl' x rfl) ((Fr.refl Nil _).alloc _)) ((Fr.refl Nil _).drew))
          go_region_held3 (fun w' => w'.cell? ⟨g, o + j * 3, none⟩ = some (.int .i64 x.1) ∧ w'.cell? ⟨g, o + j * 3 + 1, none⟩ = some (.int .i64 x.2.1) ∧ w'.cell? ⟨g, o + j * 3 + 2, none⟩ = some (.int .i64 x.2.2)) (first | (go_keep; done))
            (first | (rw [if_pos (by rfl)]; refine Slices.wp_app EPt_ok (.tmp 44) (.tmp 47) 22 rfl rfl w2.heap.size (.slice (some ⟨w2.heap.size, 0, none⟩) 0 0) (.slice (some ⟨g2, o2, none⟩) k cap2) ([]) (S.take k) rfl O1.out rfl (T1.out).come LL.out.1 B1.out ?_; intro v14 w14 h14 f14 b14 n14; have F14 : Fr Nil w2 w14 := Fr.then (R1.out) f14 (fun i hi hlt => by have := ((O1.out).lt i hi).1; omega); obtain ⟨y14, z14, u14⟩ := pt_at (Row.fr HR.out (HFW.out.trans F14) ha id) HP.out) | (rw [if_pos (by rfl)]; refine Slices.wp_app EPt_ok (.tmp 44) (.tmp 47) 22 rfl rfl w2.heap.size (.slice (some ⟨w2.heap.size, 0, none⟩) 0 0) (.slice (some ⟨g2, o2, none⟩) k cap2) ([]) (S.take k) rfl O2.out rfl (T2.out).come LL.out.1 B2.out ?_; intro v14 w14 h14 f14 b14 n14; have F14 : Fr Nil w2 w14 := Fr.then (R2.out) f14 (fun i hi hlt => by have := ((O2.out).lt i hi).1; omega); obtain ⟨y14, z14, u14⟩ := pt_at (Row.fr HR.out (HFW.out.trans F14) ha id) HP.out; have s16 := Sl.frS S2.out f14 (fun g hg hh => by have h1 := Option.some.inj hg; have h2 := Option.some.inj hh; dsimp only at h1 h2; omega)) | (rw [if_pos (by rfl)]; refine Slices.wp_app EPt_ok (.tmp 44) (.tmp 47) 22 rfl rfl w2.heap.size (.slice (some ⟨w2.heap.size + 1, 0, none⟩) 0 0) (.slice (some ⟨g2, o2, none⟩) k cap2) ([]) (S.take k) rfl O3.out rfl (T3.out).come LL.out.1 B3.out ?_; intro v14 w14 h14 f14 b14 n14; have F14 : Fr Nil w2 w14 := Fr.then (R3.out) f14 (fun i hi hlt => by have := ((O3.out).lt i hi).1; omega); obtain ⟨y14, z14, u14⟩ := pt_at (Row.fr HR.out (HFW.out.trans F14) ha id) HP.out; have s16 := Sl.frS S3.out f14 (fun g hg hh => by have h1 := Option.some.inj hg; have h2 := Option.some.inj hh; dsimp only at h1 h2; omega)) | (rw [if_pos (by rfl)]; refine Slices.wp_app EPt_ok (.tmp 48) (.tmp 53) 22 rfl rfl w2.heap.size v14 _ ([] ++ S.take k) ([x]) rfl h14 rfl (s16).come LL.out.2.1 F14.size ?_; intro v17 w17 h17 f17 b17 n17; have F17 : Fr Nil w2 w17 := Fr.then (F14) f17 (fun i hi hlt => by have := ((h14).lt i hi).1; omega); obtain ⟨y17, z17, u17⟩ := pt_at (Row.fr HR.out (HFW.out.trans F17) ha id) HP.out) | (rw [if_pos (by rfl)]; refine Slices.wp_app EPt_ok (.tmp 48) (.tmp 53) 22 rfl rfl w2.heap.size v14 _ ([] ++ S.take k) ([x]) rfl (Own.alloc h14 _) rfl (one_sl' x rfl).come LL.out.2.1 (F14.alloc _).size ?_; intro v17 w17 h17 f17 b17 n17; have F17 : Fr Nil w2 w17 := Fr.then (F14.alloc _) f17 (fun i hi hlt => by have := ((h14).lt i hi).1; omega); obtain ⟨y17, z17, u17⟩ := pt_at (Row.fr HR.out (HFW.out.trans F17) ha id) HP.out) | (rw [if_pos (by rfl)]; refine Slices.wp_app EPt_ok (.tmp 54) (.tmp 57) 22 rfl rfl w2.heap.size v17 _ ([] ++ S.take k ++ [x]) (S.drop k) rfl h17 rfl (Sl.fr HD.out F17).come LL.out.2.2 F17.size ?_; intro v21 w21 h21 f21 b21 n21; have F21 : Fr Nil w2 w21 := Fr.then (F17) f21 (fun i hi hlt => by have := ((h17).lt i hi).1; omega); obtain ⟨y21, z21, u21⟩ := pt_at (Row.fr HR.out (HFW.out.trans F21) ha id) HP.out))
          all_goals go_wp2_with fail
          all_goals
            go_roundw
            case rel => exact ⟨j + 1, _, by omega, by go_num, (by have h := Own.weaken (b' := w.heap.size) h21 hbs; simpa using h), (by simpa using HI.out), (fun e => by have h1 := n14 (n17 (n21 e)); cases h1), HFW.out.trans F21⟩
            case measure => simp [intOf]; omega
    · obtain rfl : j = P.length := by omega
      have HE := Lib.hid (half_end HPL.out HH.out)
      go_wp2_with fail
      go_ret
      exact ⟨_, S, rfl, HF0.out.trans HF.out, HS.out, HE.out⟩
end Go.Proofs.Ytalbaopfdejooaa.HullR
