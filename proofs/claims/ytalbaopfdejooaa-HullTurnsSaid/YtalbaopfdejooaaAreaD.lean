/- Chapter 3: the walk of Area. -/
import Derived.Test.YtalbaopfdejooaaAreaC
import Derived.Deep.DeepCutAuto
namespace Go.Proofs.Ytalbaopfdejooaa.AreaD
open Go.RowKit Base Slices RowsA KernA KernB AreaA AreaB AreaC
set_option linter.unusedVariables false
set_option linter.unusedSimpArgs false
theorem wcs_one (n : Int) : (wcs n).all (·.oneCell') = true := by simp [wcs, Value.oneCell']
/-- behind so many rounds -/
def At (w : World) (l : List Pn) (g5 : Nat) (i : Value) (wr : World) : Prop := ∃ k : Nat, k ≤ l.length ∧ i = .int .i64 k ∧ Bk wr w.heap.size 56 #[.int .i64 0, .int .u64 0] ∧ Bk wr g5 56 (wcs (S l k)) ∧ Fr Nil w wr
set_option maxRecDepth 100000 in
set_option maxHeartbeats 4000000 in
theorem area_any (l : List Pn) (v : Value) (w : World) (hl : l.length ≤ 20) (hv : Sl EPt w v l) :
    Calls Try.prog 48 #[v] w fun e w' => ∃ (n : Int) (b : Bool), e = .returned (.tuple #[.agg (wcs n), .bool b]) ∧ Fr Nil w w' ∧ ((b = true ∧ n = S l l.length ∧ ∀ p ∈ l, lie p = true) ∨ (b = false ∧ n = 0 ∧ ∃ p ∈ l, lie p = false)) := by
  have KC := Lib.hid (fun W (h : Sl EPt W v l) => contains_any l v W (by omega) h)
  have HV := Lib.hid hv
  obtain ⟨A, c, rfl⟩ := hv.shape
  unfold oddV at KC
  have hl' : (l.length : Int) ≤ 20 := by omega
  have HL := Lib.hid hl
  clear hv
  go_enter Try.func48, Try.ntmps48
  go_wp2_with fail
  refine (KC.out _ (HV.out.fr ((Fr.refl Nil w).alloc _))).mono ?_
  rintro e w2 ⟨b, rfl, hfq, hb⟩
  have HF2 := Lib.hid (((Fr.refl Nil w).alloc (.cells #[.int .i64 0, .int .u64 0] 56)).trans hfq)
  have HB2 := Lib.hid ((Bk.new w 56 #[.int .i64 0, .int .u64 0]).fr hfq id)
  clear hfq KC
  rcases hb with ⟨rfl, hal⟩ | ⟨rfl, hal⟩
  · have hw2 : w.heap.size < w2.heap.size := HB2.out.lt
    have HN := Lib.hid (Bk.new w2 56 #[.int .i64 0, .int .u64 0])
    go_wp2_with fail
    go_loopw [21] (fun i wr => At w l w2.heap.size i wr) (fun i _ => l.length - (intOf i).toNat)
    case atStart => exact ⟨0, by omega, rfl, HB2.out.alloc _, HN.out, HF2.out.alloc _⟩
    case round =>
      obtain ⟨k, hk, rfl, hb1, hb2, hf⟩ := hrel
      by_cases hlt : k < l.length
      · obtain ⟨p, hp⟩ : ∃ p, l[k]? = some p := ⟨l[k], List.getElem?_eq_getElem hlt⟩
        obtain ⟨q, hq⟩ : ∃ q, l[nxi l.length k]? = some q := ⟨_, List.getElem?_eq_getElem (nxi_lt hlt)⟩
        rcases HV.out with ⟨_, h0⟩ | ⟨g, o, cap, hve, hc, ha, hr⟩
        · subst h0; simp at hlt
        simp only [Value.slice.injEq, true_and] at hve
        obtain ⟨rfl, rfl⟩ := hve
        obtain ⟨c0, c1, c2⟩ := pt_at (hr.fr hf ha id) hp
        obtain ⟨d0, d1, d2⟩ := pt_at ((hr.fr hf ha id).fr ((Fr.refl Nil wr).alloc (.cells #[.int .i64 p.1, .int .i64 p.2.1, .int .i64 p.2.2] 34)) (Nat.lt_of_lt_of_le ha hf.size) id) hq
        have hrem := nxi_rem hlt
        have hml := nxi_lt hlt
        have hm0 : (0 : Int) ≤ nxi l.length k := by omega
        have hmi : (nxi l.length k : Int) < l.length := by omega
        have hn0 : (l.length : Int) ≠ 0 := by omega
        have lp := all_at hal _ _ hp
        have lq := all_at hal _ _ hq
        have HT := Lib.hid (show S l (k + 1) = S l k + tr p q from by simp only [S]; rw [term_yes hp hq lq])
        have KX := Lib.hid (fun W => cross_pq lp lq W)
        have tb := tr_bd lp lq
        have KA := Lib.hid (fun W => add_wide (S_in hl hk (fun j p _ h => all_at hal j p h)) (n := tr p q) (by omega) W)
        have HAL := Lib.hid hal
        have HB1 := Lib.hid ((hb1.alloc (.cells #[.int .i64 p.1, .int .i64 p.2.1, .int .i64 p.2.2] 34)).alloc (.cells #[.int .i64 q.1, .int .i64 q.2.1, .int .i64 q.2.2] 34))
        have HB5 := Lib.hid ((hb2.alloc (.cells #[.int .i64 p.1, .int .i64 p.2.1, .int .i64 p.2.2] 34)).alloc (.cells #[.int .i64 q.1, .int .i64 q.2.1, .int .i64 q.2.2] 34))
        have HFr := Lib.hid ((hf.alloc (.cells #[.int .i64 p.1, .int .i64 p.2.1, .int .i64 p.2.2] 34)).alloc (.cells #[.int .i64 q.1, .int .i64 q.2.1, .int .i64 q.2.2] 34))
        have hg1 : w.heap.size < wr.heap.size := hb1.lt
        have hg2 : w2.heap.size < wr.heap.size := hb2.lt
        have HS0 := Lib.hid (show Bk ((wr.alloc (.cells #[.int .i64 p.1, .int .i64 p.2.1, .int .i64 p.2.2] 34)).alloc (.cells #[.int .i64 q.1, .int .i64 q.2.1, .int .i64 q.2.2] 34)) wr.heap.size 34 #[.int .i64 p.1, .int .i64 p.2.1, .int .i64 p.2.2] ∧ Bk ((wr.alloc (.cells #[.int .i64 p.1, .int .i64 p.2.1, .int .i64 p.2.2] 34)).alloc (.cells #[.int .i64 q.1, .int .i64 q.2.1, .int .i64 q.2.2] 34)) (wr.heap.size + 1) 34 #[.int .i64 q.1, .int .i64 q.2.1, .int .i64 q.2.2] from ⟨(Bk.new wr _ _).alloc _, WideB.new' (by simp)⟩)
        clear hp hq lp lq tb hb1 hb2 hf hr hal
        generalize nxi l.length k = m at *
        generalize S l k = sn at *
        generalize tr p q = tn at *
        go_upto_region 9 with fail
        generalize hwz : (wr.alloc (.cells #[.int .i64 p.1, .int .i64 p.2.1, .int .i64 p.2.2] 34)).alloc (.cells #[.int .i64 q.1, .int .i64 q.2.1, .int .i64 q.2.2] 34) = wz at *
        have hgz : wr.heap.size + 2 = wz.heap.size := by rw [← hwz]; simp
        have KS := Lib.hid (fun W (h : Fr Nil wz W) => (show Bk W wr.heap.size 34 #[.int .i64 p.1, .int .i64 p.2.1, .int .i64 p.2.2] ∧ Bk W (wr.heap.size + 1) 34 #[.int .i64 q.1, .int .i64 q.2.1, .int .i64 q.2.2] from ⟨HS0.out.1.fr h id, HS0.out.2.fr h id⟩))
        clear c0 c1 c2 d0 d1 d2 hrem hwz HS0
        refine wp_region_held (S := fun w' => Bk w' wr.heap.size 34 #[.int .i64 p.1, .int .i64 p.2.1, .int .i64 p.2.2] ∧ Bk w' (wr.heap.size + 1) 34 #[.int .i64 q.1, .int .i64 q.2.1, .int .i64 q.2.2]) (by kernel_rfl) ?_
        have fz0 : Fr Nil wz wz.drew := (Fr.refl Nil wz).drew
        change wpAnyH _ _ _ _ _ _ _ _ (World.drew _)
        refine wpAnyH_take (i := 1) (v := .pointer (some ⟨wr.heap.size, 1, none⟩)) rfl (by kernel_rfl) (by kernel_rfl) (by kernel_rfl) (fun _ _ _ h => h) (Or.inl ⟨by rfl, fun w' hw' => by first | (go_simp; done) | (go_simp; rfl)⟩) (KS.out _ fz0) ?_
        (try simp only [Act.put, List.getElem_toArray, List.getElem_cons_zero, List.getElem_cons_succ, List.setIfInBounds_toArray, List.set_cons_zero, List.set_cons_succ])
        refine wpAnyH_take (i := 2) (v := .int .i64 p.2.1) rfl (by kernel_rfl) (by kernel_rfl) (by kernel_rfl) (fun _ _ _ h => h) (Or.inl ⟨by rfl, fun w' hw' => by obtain ⟨z0, z1, z2, _⟩ := hw'.1.c3; first | (go_simp; done) | (go_simp; rfl)⟩) (KS.out _ fz0) ?_
        (try simp only [Act.put, List.getElem_toArray, List.getElem_cons_zero, List.getElem_cons_succ, List.setIfInBounds_toArray, List.set_cons_zero, List.set_cons_succ])
        refine wpAnyH_take (i := 3) (v := .pointer (some ⟨wr.heap.size + 1, 2, none⟩)) rfl (by kernel_rfl) (by kernel_rfl) (by kernel_rfl) (fun _ _ _ h => h) (Or.inl ⟨by rfl, fun w' hw' => by first | (go_simp; done) | (go_simp; rfl)⟩) (KS.out _ fz0) ?_
        (try simp only [Act.put, List.getElem_toArray, List.getElem_cons_zero, List.getElem_cons_succ, List.setIfInBounds_toArray, List.set_cons_zero, List.set_cons_succ])
        refine wpAnyH_take (i := 4) (v := .int .i64 q.2.2) rfl (by kernel_rfl) (by kernel_rfl) (by kernel_rfl) (fun _ _ _ h => h) (Or.inl ⟨by rfl, fun w' hw' => by obtain ⟨z0, z1, z2, _⟩ := hw'.2.c3; first | (go_simp; done) | (go_simp; rfl)⟩) (KS.out _ fz0) ?_
        (try simp only [Act.put, List.getElem_toArray, List.getElem_cons_zero, List.getElem_cons_succ, List.setIfInBounds_toArray, List.set_cons_zero, List.set_cons_succ])
        refine wpAnyH_take (i := 5) (v := .pointer (some ⟨wr.heap.size + 1, 1, none⟩)) rfl (by kernel_rfl) (by kernel_rfl) (by kernel_rfl) (fun _ _ _ h => h) (Or.inl ⟨by rfl, fun w' hw' => by first | (go_simp; done) | (go_simp; rfl)⟩) (KS.out _ fz0) ?_
        (try simp only [Act.put, List.getElem_toArray, List.getElem_cons_zero, List.getElem_cons_succ, List.setIfInBounds_toArray, List.set_cons_zero, List.set_cons_succ])
        refine wpAnyH_take (i := 6) (v := .int .i64 q.2.1) rfl (by kernel_rfl) (by kernel_rfl) (by kernel_rfl) (fun _ _ _ h => h) (Or.inl ⟨by rfl, fun w' hw' => by obtain ⟨z0, z1, z2, _⟩ := hw'.2.c3; first | (go_simp; done) | (go_simp; rfl)⟩) (KS.out _ fz0) ?_
        (try simp only [Act.put, List.getElem_toArray, List.getElem_cons_zero, List.getElem_cons_succ, List.setIfInBounds_toArray, List.set_cons_zero, List.set_cons_succ])
        refine wpAnyH_take (i := 7) (v := .pointer (some ⟨wr.heap.size, 2, none⟩)) rfl (by kernel_rfl) (by kernel_rfl) (by kernel_rfl) (fun _ _ _ h => h) (Or.inl ⟨by rfl, fun w' hw' => by first | (go_simp; done) | (go_simp; rfl)⟩) (KS.out _ fz0) ?_
        (try simp only [Act.put, List.getElem_toArray, List.getElem_cons_zero, List.getElem_cons_succ, List.setIfInBounds_toArray, List.set_cons_zero, List.set_cons_succ])
        refine wpAnyH_take (i := 8) (v := .int .i64 p.2.2) rfl (by kernel_rfl) (by kernel_rfl) (by kernel_rfl) (fun _ _ _ h => h) (Or.inl ⟨by rfl, fun w' hw' => by obtain ⟨z0, z1, z2, _⟩ := hw'.1.c3; first | (go_simp; done) | (go_simp; rfl)⟩) (KS.out _ fz0) ?_
        (try simp only [Act.put, List.getElem_toArray, List.getElem_cons_zero, List.getElem_cons_succ, List.setIfInBounds_toArray, List.set_cons_zero, List.set_cons_succ])
        refine wpAnyH_all (rs := [0, 9]) (by kernel_rfl) (by simp) (fun i hi => ?_)
        rcases (show i = 0 ∨ i = 9 by simpa using hi) with rfl | rfl
        · refine wpOp_loadT (n := 2) rfl rfl wide_row (HB5.out.fr fz0 id) rfl ?_
          refine ⟨(KS.out _ fz0), ?_⟩
          clear hi
          (try simp only [Act.put, List.getElem_toArray, List.getElem_cons_zero, List.getElem_cons_succ, List.setIfInBounds_toArray, List.set_cons_zero, List.set_cons_succ])
          refine wpAnyH_all (rs := [9]) (by kernel_rfl) (by simp) (fun i hi => ?_)
          obtain rfl : i = 9 := by simpa using hi
          refine wpOp_step rfl (fun K hK => ?_)
          go_simp
          refine (KX.out _).mono ?_
          rintro e wz1 ⟨rfl, hfz1⟩
          have fz1 : Fr Nil _ _ := fz0.trans hfz1
          refine hK _ _ ⟨(KS.out _ fz1), ?_⟩
          clear hK K hi
          (try simp only [Act.put, List.getElem_toArray, List.getElem_cons_zero, List.getElem_cons_succ, List.setIfInBounds_toArray, List.set_cons_zero, List.set_cons_succ])
          refine wpAnyH_all (rs := [10]) (by kernel_rfl) (by simp) (fun i hi => ?_)
          obtain rfl : i = 10 := by simpa using hi
          refine wpOp_step rfl (fun K hK => ?_)
          go_simp
          refine (KA.out _).mono ?_
          rintro e wz2 ⟨rfl, hfz2⟩
          have fz2 : Fr Nil _ _ := fz1.trans hfz2
          refine hK _ _ ⟨(KS.out _ fz2), ?_⟩
          clear hK K hi
          (try simp only [Act.put, List.getElem_toArray, List.getElem_cons_zero, List.getElem_cons_succ, List.setIfInBounds_toArray, List.set_cons_zero, List.set_cons_succ])
          refine wpAnyH_take (i := 11) (v := .tuple #[.agg (wcs (sn + tn)), .bool true]) rfl (by kernel_rfl) (by kernel_rfl) (by kernel_rfl) (fun _ _ _ h => h) (Or.inl ⟨by rfl, fun w' hw' => by first | (go_simp; done) | (go_simp; rfl)⟩) (KS.out _ fz2) ?_
          (try simp only [Act.put, List.getElem_toArray, List.getElem_cons_zero, List.getElem_cons_succ, List.setIfInBounds_toArray, List.set_cons_zero, List.set_cons_succ])
          refine wpAnyH_take (i := 12) (v := .agg (wcs (sn + tn))) rfl (by kernel_rfl) (by kernel_rfl) (by kernel_rfl) (fun _ _ _ h => h) (Or.inl ⟨by rfl, fun w' hw' => by first | (go_simp; done) | (go_simp; rfl)⟩) (KS.out _ fz2) ?_
          (try simp only [Act.put, List.getElem_toArray, List.getElem_cons_zero, List.getElem_cons_succ, List.setIfInBounds_toArray, List.set_cons_zero, List.set_cons_succ])
          refine wpAnyH_take (i := 13) (v := .bool true) rfl (by kernel_rfl) (by kernel_rfl) (by kernel_rfl) (fun _ _ _ h => h) (Or.inl ⟨by rfl, fun w' hw' => by first | (go_simp; done) | (go_simp; rfl)⟩) (KS.out _ fz2) ?_
          (try simp only [Act.put, List.getElem_toArray, List.getElem_cons_zero, List.getElem_cons_succ, List.setIfInBounds_toArray, List.set_cons_zero, List.set_cons_succ])
          refine wpAnyH_all (rs := [14]) (by kernel_rfl) (by simp) (fun i hi => ?_)
          obtain rfl : i = 14 := by simpa using hi
          refine wpOp_storeT (n := 2) rfl rfl rfl wide_row (HB5.out.fr fz2 id) rfl rfl (wcs_one _) ?_
          intro ws hbs hfs
          refine ⟨⟨(KS.out _ fz2).1.fr hfs (by omega), (KS.out _ fz2).2.fr hfs (by omega)⟩, ?_⟩
          have HBs := Lib.hid hbs
          have HB1s := Lib.hid ((HB1.out.fr fz2 id).fr hfs (by omega))
          have HFs := Lib.hid (Fr.then (HFr.out.trans fz2) hfs (fun k hk hlt => by omega))
          clear hbs hfs hi
          (try simp only [Act.put, List.getElem_toArray, List.getElem_cons_zero, List.getElem_cons_succ, List.setIfInBounds_toArray, List.set_cons_zero, List.set_cons_succ])
          refine wpAnyH_done (by kernel_rfl) ?_ _
          go_wp2_with fail
          go_roundw
          case rel => exact ⟨k + 1, by omega, by go_num, HB1s.out, by rw [HT.out]; exact HBs.out, HFs.out⟩
          case measure => simp [intOf]; omega
        · refine wpOp_step rfl (fun K hK => ?_)
          go_simp
          refine (KX.out _).mono ?_
          rintro e wz1 ⟨rfl, hfz1⟩
          have fz1 : Fr Nil _ _ := fz0.trans hfz1
          refine hK _ _ ⟨(KS.out _ fz1), ?_⟩
          clear hK K hi
          (try simp only [Act.put, List.getElem_toArray, List.getElem_cons_zero, List.getElem_cons_succ, List.setIfInBounds_toArray, List.set_cons_zero, List.set_cons_succ])
          refine wpAnyH_all (rs := [0]) (by kernel_rfl) (by simp) (fun i hi => ?_)
          obtain rfl : i = 0 := by simpa using hi
          refine wpOp_loadT (n := 2) rfl rfl wide_row (HB5.out.fr fz1 id) rfl ?_
          refine ⟨(KS.out _ fz1), ?_⟩
          clear hi
          (try simp only [Act.put, List.getElem_toArray, List.getElem_cons_zero, List.getElem_cons_succ, List.setIfInBounds_toArray, List.set_cons_zero, List.set_cons_succ])
          refine wpAnyH_all (rs := [10]) (by kernel_rfl) (by simp) (fun i hi => ?_)
          obtain rfl : i = 10 := by simpa using hi
          refine wpOp_step rfl (fun K hK => ?_)
          go_simp
          refine (KA.out _).mono ?_
          rintro e wz2 ⟨rfl, hfz2⟩
          have fz2 : Fr Nil _ _ := fz1.trans hfz2
          refine hK _ _ ⟨(KS.out _ fz2), ?_⟩
          clear hK K hi
          (try simp only [Act.put, List.getElem_toArray, List.getElem_cons_zero, List.getElem_cons_succ, List.setIfInBounds_toArray, List.set_cons_zero, List.set_cons_succ])
          refine wpAnyH_take (i := 11) (v := .tuple #[.agg (wcs (sn + tn)), .bool true]) rfl (by kernel_rfl) (by kernel_rfl) (by kernel_rfl) (fun _ _ _ h => h) (Or.inl ⟨by rfl, fun w' hw' => by first | (go_simp; done) | (go_simp; rfl)⟩) (KS.out _ fz2) ?_
          (try simp only [Act.put, List.getElem_toArray, List.getElem_cons_zero, List.getElem_cons_succ, List.setIfInBounds_toArray, List.set_cons_zero, List.set_cons_succ])
          refine wpAnyH_take (i := 12) (v := .agg (wcs (sn + tn))) rfl (by kernel_rfl) (by kernel_rfl) (by kernel_rfl) (fun _ _ _ h => h) (Or.inl ⟨by rfl, fun w' hw' => by first | (go_simp; done) | (go_simp; rfl)⟩) (KS.out _ fz2) ?_
          (try simp only [Act.put, List.getElem_toArray, List.getElem_cons_zero, List.getElem_cons_succ, List.setIfInBounds_toArray, List.set_cons_zero, List.set_cons_succ])
          refine wpAnyH_take (i := 13) (v := .bool true) rfl (by kernel_rfl) (by kernel_rfl) (by kernel_rfl) (fun _ _ _ h => h) (Or.inl ⟨by rfl, fun w' hw' => by first | (go_simp; done) | (go_simp; rfl)⟩) (KS.out _ fz2) ?_
          (try simp only [Act.put, List.getElem_toArray, List.getElem_cons_zero, List.getElem_cons_succ, List.setIfInBounds_toArray, List.set_cons_zero, List.set_cons_succ])
          refine wpAnyH_all (rs := [14]) (by kernel_rfl) (by simp) (fun i hi => ?_)
          obtain rfl : i = 14 := by simpa using hi
          refine wpOp_storeT (n := 2) rfl rfl rfl wide_row (HB5.out.fr fz2 id) rfl rfl (wcs_one _) ?_
          intro ws hbs hfs
          refine ⟨⟨(KS.out _ fz2).1.fr hfs (by omega), (KS.out _ fz2).2.fr hfs (by omega)⟩, ?_⟩
          have HBs := Lib.hid hbs
          have HB1s := Lib.hid ((HB1.out.fr fz2 id).fr hfs (by omega))
          have HFs := Lib.hid (Fr.then (HFr.out.trans fz2) hfs (fun k hk hlt => by omega))
          clear hbs hfs hi
          (try simp only [Act.put, List.getElem_toArray, List.getElem_cons_zero, List.getElem_cons_succ, List.setIfInBounds_toArray, List.set_cons_zero, List.set_cons_succ])
          refine wpAnyH_done (by kernel_rfl) ?_ _
          go_wp2_with fail
          go_roundw
          case rel => exact ⟨k + 1, by omega, by go_num, HB1s.out, by rw [HT.out]; exact HBs.out, HFs.out⟩
          case measure => simp [intOf]; omega
      · obtain rfl : k = l.length := by omega
        unfold wcs at hb2
        generalize hsn : S l l.length = sn at *
        obtain ⟨a0, a1, f0, f1⟩ := hb1.c2
        obtain ⟨b0, b1, e0, e1⟩ := hb2.c2
        have HFr := Lib.hid hf
        have HAL := Lib.hid hal
        have HSN := Lib.hid hsn
        have hne : w2.heap.size ≠ w.heap.size := by omega
        have hlt1 : w.heap.size < wr.heap.size := hb1.lt
        clear hf hal hsn hb1 hb2
        go_wp2_with fail
        exact bodyPost_ret (v := .tuple #[.agg (wcs sn), .bool true]) (by simp [results, Try.results48, go_sem, a0, a1, wcs]) rfl ⟨sn, true, rfl, Fr.setCell (Fr.setCell HFr.out (fun h => by first | exact absurd h (Nat.lt_irrefl _) | omega) _) (fun h => by first | exact absurd h (Nat.lt_irrefl _) | omega) _, Or.inl ⟨rfl, HSN.out.symm, HAL.out⟩⟩
  · obtain ⟨a0, a1, f0, f1⟩ := HB2.out.c2
    go_wp2_with fail
    exact bodyPost_ret (v := .tuple #[.agg (wcs 0), .bool false]) (by simp [results, Try.results48, go_sem, a0, a1, wcs]) rfl ⟨0, false, rfl, Fr.setCell (Fr.setCell HF2.out (fun h => by first | exact absurd h (Nat.lt_irrefl _) | omega) _) (fun h => by first | exact absurd h (Nat.lt_irrefl _) | omega) _, Or.inr ⟨rfl, rfl, hal⟩⟩
end Go.Proofs.Ytalbaopfdejooaa.AreaD
