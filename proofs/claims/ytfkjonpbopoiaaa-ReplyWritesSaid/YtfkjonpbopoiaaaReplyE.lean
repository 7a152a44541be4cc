/- Chapter 30: the walks of Few, Encode, Changed, lives. -/
import Derived.Test.YtfkjonpbopoiaaaReplyD
import Derived.Laws.BytesArg
namespace Go.Proofs.Ytfkjonpbopoiaaa.ReplyE
open Go.RowKit Base Slices VintA VintB Quiet ReplyA ReplyB ReplyC ReplyD
set_option linter.unusedVariables false
set_option linter.unusedSimpArgs false

/-- a new slice with these elements, not nil -/
def New (l : List Int) (w : World) (e : Ending) (w' : World) : Prop := ∃ u, e = .returned u ∧ Fr Nil w w' ∧ Own EI w' w.heap.size u l ∧ u ≠ .slice none 0 0
theorem fr_new {w0 w1 w2 : World} {v : Value} (h : Fr Nil w0 w1) (h2 : Fr (Of v) w1 w2) (hv : ∀ k, v.ownBlock = some k → w0.heap.size ≤ k) : Fr Nil w0 w2 :=
  h.then h2 fun k hk hlt => absurd (hv k hk) (by omega)
/-- a reply that comes in -/
def Rc (w : World) (v : Value) (r : Rp) : Prop := ∃ s, v = rv r s ∧ Come EI w s r.ids
theorem Rc.fr {w w' : World} {v : Value} {r : Rp} (h : Rc w v r) (hf : Fr Nil w w') : Rc w' v r := by
  obtain ⟨s, rfl, hs⟩ := h
  exact ⟨s, rfl, hs.fr hf⟩
theorem rv_in {w : World} {v : Value} {r : Rp} (h : Rv w v r) : Rc w v r := by
  obtain ⟨s, rfl, hs⟩ := h
  exact ⟨s, rfl, hs.come⟩
def cut (r : Rp) : Rp := { r with ids := r.ids.take 60 }
theorem cut_len (r : Rp) : (cut r).ids.length ≤ 60 := by unfold cut; simp; omega
theorem cut_id {r : Rp} (h : r.ids.length ≤ 60) : cut r = r := by
  unfold cut
  rw [List.take_of_length_le h]
/-- a reply whose ids lie in new memory -/
def Rn (B : Nat) (w : World) (v : Value) (r : Rp) : Prop := ∃ s, v = rv r s ∧ Sl EI w s r.ids ∧ ∀ k, s.ownBlock = some k → B ≤ k
theorem rn_rv {B : Nat} {w : World} {v : Value} {r : Rp} (h : Rn B w v r) : Rv w v r := by
  obtain ⟨s, h1, h2, _⟩ := h
  exact ⟨s, h1, h2⟩
section
variable (w : World)
set_option maxHeartbeats 2000000 in
theorem Few_any {l : List Int} {k : Nat} {y : Value} (hy : Come EI w y l) (hk : k ≤ 100000) (hm : l.length ≤ maxLen) : Calls Try.prog 15 #[y, .int .i64 (k : Int)] w (New (l.take k) w) := by
  have hkk : (k : Int) ≤ 100000 := by omega
  unfold maxLen at hm
  have hmm : (l.length : Int) ≤ 9223372036854775807 := by omega
  clear hm
  rcases Nat.lt_or_ge k l.length with hlt | hge
  · rcases hy with ⟨rfl, rfl⟩ | ⟨a, cap, rfl, hc, hr⟩
    · simp at hlt
    · have hy' : Come EI w (.slice (some a) l.length cap) l := Or.inr ⟨a, cap, rfl, hc, hr⟩
      have hY := Lib.hid (hy'.take EI_ok k (by omega))
      have hL := Lib.hid (show ([] : List Int).length + (l.take k).length ≤ 1000000 by simp; omega)
      have h1 : (k : Int) < l.length := by omega
      have h2 : (k : Int) ≤ cap := by omega
      clear hr hy'
      go_enter Try.func15, Try.ntmps15
      go_wp2_with (at_builtin; refine wpList_app EI_ok rfl (.tmp 12) (.tmp 13) 23 rfl rfl w.heap.size (.slice (some ⟨w.heap.size, 0, none⟩) 0 0) (.slice (some a) k cap) [] (l.take k) rfl (Own.made (Nat.le_refl _) rfl) rfl (hY.out.fr (by (repeat' (with_reducible first | refine Fr.setCell ?_ (fun hlt => absurd hlt (by dsimp only; omega)) _ | refine Fr.alloc ?_ _ | refine Fr.drewN ?_ _ | refine Fr.drew ?_ | exact Fr.refl _ _)))) hL.out (by simp) ?_; intro v' w1 o1 o2 o3 o4)
      go_ret
      exact ⟨_, rfl, fr_new (by (repeat' (with_reducible first | refine Fr.setCell ?_ (fun hlt => absurd hlt (by dsimp only; omega)) _ | refine Fr.alloc ?_ _ | refine Fr.drewN ?_ _ | refine Fr.drew ?_ | exact Fr.refl _ _))) o2 (fun k hk => by simp [Value.ownBlock] at hk; omega), o1, fun e => by cases o4 e⟩
  · rw [List.take_of_length_le hge]
    have h1 : (l.length : Int) ≤ k := by omega
    obtain ⟨A, c, rfl⟩ := hy.shape
    have hY := Lib.hid hy
    have hL := Lib.hid (show ([] : List Int).length + l.length ≤ 1000000 by simp; omega)
    clear hy hge
    go_enter Try.func15, Try.ntmps15
    go_wp2_with (at_builtin; refine wpList_app EI_ok rfl (.tmp 12) (.tmp 13) 23 rfl rfl w.heap.size (.slice (some ⟨w.heap.size, 0, none⟩) 0 0) (.slice A l.length c) [] l rfl (Own.made (Nat.le_refl _) rfl) rfl (hY.out.fr (by (repeat' (with_reducible first | refine Fr.setCell ?_ (fun hlt => absurd hlt (by dsimp only; omega)) _ | refine Fr.alloc ?_ _ | refine Fr.drewN ?_ _ | refine Fr.drew ?_ | exact Fr.refl _ _)))) hL.out (by simp) ?_; intro v' w1 o1 o2 o3 o4)
    go_ret
    exact ⟨_, rfl, fr_new (by (repeat' (with_reducible first | refine Fr.setCell ?_ (fun hlt => absurd hlt (by dsimp only; omega)) _ | refine Fr.alloc ?_ _ | refine Fr.drewN ?_ _ | refine Fr.drew ?_ | exact Fr.refl _ _))) o2 (fun k hk => by simp [Value.ownBlock] at hk; omega), o1, fun e => by cases o4 e⟩


set_option maxHeartbeats 2000000 in
theorem few_new (r : Rp) (v : Value) (hm : r.ids.length ≤ maxLen) (hv : Rc w v r) :
    Calls Try.prog 6 #[v] w fun e w' => ∃ u, e = .returned u ∧ Fr Nil w w' ∧ Rn w.heap.size w' u (cut r) := by
  obtain ⟨s, rfl, hs⟩ := hv
  have HB := Lib.hid ((Bk.new w 27 (rc r s)).alloc (.cells #[.int .i64 0, .bool false, .bool false, .int .i64 0, .slice none 0 0] 27))
  have HD := Lib.hid (show Bk ((w.alloc (.cells (rc r s) 27)).alloc (.cells #[.int .i64 0, .bool false, .bool false, .int .i64 0, .slice none 0 0] 27)) (w.heap.size + 1) 27 #[.int .i64 0, .bool false, .bool false, .int .i64 0, .slice none 0 0] by
    have h := Bk.new (w.alloc (.cells (rc r s) 27)) 27 #[.int .i64 0, .bool false, .bool false, .int .i64 0, .slice none 0 0]
    rwa [show (w.alloc (.cells (rc r s) 27)).heap.size = w.heap.size + 1 by simp] at h)
  have G0 := Lib.hid (((Fr.refl Nil w).alloc (.cells (rc r s) 27)).alloc (.cells #[.int .i64 0, .bool false, .bool false, .int .i64 0, .slice none 0 0] 27))
  have KF := Lib.hid (Few_any _ (k := 60) (hs.fr G0.out) (by decide) hm)
  obtain ⟨A, cp, rfl⟩ := hs.shape
  have HT := Lib.hid (show (r.ids.take 60) = (cut r).ids from rfl)
  have HC := Lib.hid (show cut r = ⟨r.c, r.a, r.l, r.n, r.ids.take 60⟩ from rfl)
  clear hs hm
  obtain ⟨c, a, l, n, ids⟩ := r
  unfold rv rc at *
  dsimp only at *
  obtain ⟨b0, b1, b2, b3, b4, e0, e1, e2, e3, e4⟩ := HB.out.c5
  generalize List.take 60 ids = L at *
  go_enter Try.func6, Try.ntmps6
  go_wp2_with fail
  refine KF.out.mono ?_
  rintro e w1 ⟨u, rfl, hf, ho, hn⟩
  have HB1 := Lib.hid (HB.out.fr hf id)
  have HD1 := Lib.hid (HD.out.fr hf id)
  have HO := Lib.hid ho
  have HF := Lib.hid (G0.out.trans hf)
  obtain ⟨A1, cp1, rfl⟩ := (ho.sl EI_ok).shape
  obtain ⟨b0, b1, b2, b3, b4, e0, e1, e2, e3, e4⟩ := HB1.out.c5
  have HZ := Lib.hid (show w.heap.size + 1 < w1.heap.size from HD1.out.lt)
  obtain ⟨d0, d1, d2, d3, d4, f0, f1, f2, f3, f4⟩ := HD1.out.c5
  clear hf ho hn
  go_wp2_with fail
  have HW := Lib.hid (show Fr Nil w ((((((w1.setCell ⟨w.heap.size, 4, none⟩ (.slice A1 L.length cp1)).setCell ⟨w.heap.size + 1, 0, none⟩ (.int .i64 c)).setCell ⟨w.heap.size + 1, 1, none⟩ (.bool a)).setCell ⟨w.heap.size + 1, 2, none⟩ (.bool l)).setCell ⟨w.heap.size + 1, 3, none⟩ (.int .i64 n)).setCell ⟨w.heap.size + 1, 4, none⟩ (.slice A1 L.length cp1)) by
    refine Fr.setCell ?_ (fun h => by simp at h; omega) _
    refine Fr.setCell ?_ (fun h => by simp at h; omega) _
    refine Fr.setCell ?_ (fun h => by simp at h; omega) _
    refine Fr.setCell ?_ (fun h => by simp at h; omega) _
    refine Fr.setCell ?_ (fun h => by simp at h; omega) _
    refine Fr.setCell ?_ (fun h => by simp at h) _
    exact HF.out)
  have HW2 := Lib.hid (show Fr (fun k => k = w.heap.size ∨ k = w.heap.size + 1) w1 ((((((w1.setCell ⟨w.heap.size, 4, none⟩ (.slice A1 L.length cp1)).setCell ⟨w.heap.size + 1, 0, none⟩ (.int .i64 c)).setCell ⟨w.heap.size + 1, 1, none⟩ (.bool a)).setCell ⟨w.heap.size + 1, 2, none⟩ (.bool l)).setCell ⟨w.heap.size + 1, 3, none⟩ (.int .i64 n)).setCell ⟨w.heap.size + 1, 4, none⟩ (.slice A1 L.length cp1)) by
    refine Fr.setCell ?_ (fun _ => Or.inr rfl) _
    refine Fr.setCell ?_ (fun _ => Or.inr rfl) _
    refine Fr.setCell ?_ (fun _ => Or.inr rfl) _
    refine Fr.setCell ?_ (fun _ => Or.inr rfl) _
    refine Fr.setCell ?_ (fun _ => Or.inr rfl) _
    refine Fr.setCell ?_ (fun _ => Or.inl rfl) _
    exact Fr.refl _ _)
  have HK := Lib.hid ((((((HD1.out.far (p := ⟨w.heap.size, 4, none⟩) (by simp) (.slice A1 L.length cp1)).put 0 (.int .i64 c)).put 1 (.bool a)).put 2 (.bool l)).put 3 (.int .i64 n)).put 4 (.slice A1 L.length cp1))
  generalize ((((((w1.setCell ⟨w.heap.size, 4, none⟩ (.slice A1 L.length cp1)).setCell ⟨w.heap.size + 1, 0, none⟩ (.int .i64 c)).setCell ⟨w.heap.size + 1, 1, none⟩ (.bool a)).setCell ⟨w.heap.size + 1, 2, none⟩ (.bool l)).setCell ⟨w.heap.size + 1, 3, none⟩ (.int .i64 n)).setCell ⟨w.heap.size + 1, 4, none⟩ (.slice A1 L.length cp1)) = W at HW HW2 HK ⊢
  have k0 := HK.out.cell 0
  have k1 := HK.out.cell 1
  have k2 := HK.out.cell 2
  have k3 := HK.out.cell 3
  have k4 := HK.out.cell 4
  simp at k0 k1 k2 k3 k4
  exact bodyPost_ret (v := .agg #[.int .i64 c, .bool a, .bool l, .int .i64 n, .slice A1 L.length cp1]) (by simp [results, Try.results6, go_sem, k0, k1, k2, k3, k4]) rfl ⟨_, rfl, HW.out, _, by rw [HC.out]; rfl, by rw [← HT.out]; exact Sl.frS (HO.out.sl EI_ok) HW2.out (fun g' hg hs => by have := (HO.out.lt g' hg).1; simp at this; omega), fun k hk => by have := (HO.out.lt k hk).1; simp at this; omega⟩

theorem few_any (r : Rp) (v : Value) (hm : r.ids.length ≤ maxLen) (hv : Rc w v r) :
    Calls Try.prog 6 #[v] w fun e w' => ∃ u, e = .returned u ∧ Fr Nil w w' ∧ Rv w' u (cut r) :=
  (few_new w r v hm hv).mono fun _ _ ⟨u, h1, h2, h3⟩ => ⟨u, h1, h2, rn_rv h3⟩
/-- Few, of a reply that is short -/
theorem few_sl (r : Rp) (v : Value) (hl : r.ids.length ≤ 60) (hv : Rv w v r) :
    Calls Try.prog 6 #[v] w fun e w' => ∃ u, e = .returned u ∧ Fr Nil w w' ∧ Rv w' u r := by
  have h := few_any w r v (by unfold maxLen; omega) (rv_in hv)
  rwa [cut_id hl] at h

theorem encode_ok (r : Rp) (v : Value) (hg : GoodR r) (hl : r.ids.length ≤ 1000) (hv : Rv w v r) :
    Calls Try.prog 7 #[v] w fun e w' => ∃ u, e = .returned (.tuple #[u, .int .i64 0]) ∧ Fr Nil w w' ∧ Own EB w' w.heap.size u (encR r) := by
  obtain ⟨s, rfl, hs⟩ := hv
  have HB := Lib.hid (Bk.new w 27 (rc r s))
  have G0 := Lib.hid ((Fr.refl Nil w).alloc (.cells (rc r s) 27))
  have HV := Lib.hid (show Rv (w.alloc (.cells (rc r s) 27)) (rv r s) r from ⟨s, rfl, hs.fr G0.out⟩)
  have K1 := Lib.hid (good_any _ r _ (by omega) HV.out)
  have K2 := Lib.hid (fun W (h : Fr Nil (w.alloc (.cells (rc r s) 27)) W) => encoded_any W r _ hg hl (HV.out.fr h))
  have HG := Lib.hid hg
  obtain ⟨A, cp, rfl⟩ := hs.shape
  clear hs hg hl
  obtain ⟨c, a, l, n, ids⟩ := r
  unfold rv rc at *
  dsimp only at *
  obtain ⟨b0, b1, b2, b3, b4, _⟩ := HB.out.c5
  generalize encR ⟨c, a, l, n, ids⟩ = T at *
  go_enter Try.func7, Try.ntmps7
  go_wp2_with fail
  refine K1.out.mono ?_
  rintro e w1 ⟨⟨b, rfl, hb⟩, hf1⟩
  obtain rfl : b = true := hb.2 HG.out
  obtain ⟨b0, b1, b2, b3, b4, _⟩ := (HB.out.fr hf1 id).c5
  have HF := Lib.hid hf1
  clear hb hf1
  go_wp2_with fail
  refine (K2.out _ HF.out).mono ?_
  rintro e w2 ⟨u, rfl, hf2, ho⟩
  have HF2 := Lib.hid (HF.out.trans hf2)
  have HO := Lib.hid ho
  have HS1 := Lib.hid HF.out.size
  clear hf2 ho
  go_wp2_with fail
  exact bodyPost_ret (v := .tuple #[u, .int .i64 0]) (by simp [results, Try.results7, go_sem]) rfl ⟨_, rfl, G0.out.trans HF2.out, HO.out.weaken (by have := HS1.out; simp at this; omega)⟩

theorem encode_bad (r : Rp) (v : Value) (hg : ¬ GoodR r) (hl : r.ids.length ≤ 1000) (hv : Rv w v r) :
    Calls Try.prog 7 #[v] w fun e w' => e = .returned (.tuple #[.slice none 0 0, .int .i64 8]) ∧ Fr Nil w w' := by
  obtain ⟨s, rfl, hs⟩ := hv
  have HB := Lib.hid (Bk.new w 27 (rc r s))
  have G0 := Lib.hid ((Fr.refl Nil w).alloc (.cells (rc r s) 27))
  have HV := Lib.hid (show Rv (w.alloc (.cells (rc r s) 27)) (rv r s) r from ⟨s, rfl, hs.fr G0.out⟩)
  have K1 := Lib.hid (good_any _ r _ (by omega) HV.out)
  have HG := Lib.hid hg
  obtain ⟨A, cp, rfl⟩ := hs.shape
  clear hs hg hl
  obtain ⟨c, a, l, n, ids⟩ := r
  unfold rv rc at *
  dsimp only at *
  obtain ⟨b0, b1, b2, b3, b4, _⟩ := HB.out.c5
  go_enter Try.func7, Try.ntmps7
  go_wp2_with fail
  refine K1.out.mono ?_
  rintro e w1 ⟨⟨b, rfl, hb⟩, hf1⟩
  obtain rfl : b = false := by
    cases b with
    | false => rfl
    | true => exact absurd (hb.1 rfl) HG.out
  have HF := Lib.hid hf1
  clear hb hf1
  go_wp2_with fail
  exact bodyPost_ret (v := .tuple #[.slice none 0 0, .int .i64 8]) (by simp [results, Try.results7, go_sem]) rfl ⟨rfl, G0.out.trans HF.out⟩

theorem changed_any (c : Int) : Calls Try.prog 18 #[.int .i64 c] w fun e w' => e = .returned (rv ⟨c, false, false, 0, []⟩ (.slice none 0 0)) ∧ Fr Nil w w' := by
  have HD := Lib.hid (Bk.new w 27 #[.int .i64 0, .bool false, .bool false, .int .i64 0, .slice none 0 0])
  obtain ⟨d0, d1, d2, d3, d4, f0, f1, f2, f3, f4⟩ := HD.out.c5
  go_enter Try.func18, Try.ntmps18
  go_wp2_with fail
  obtain ⟨k0, k1, k2, k3, k4, _⟩ := (Bk.new w 27 #[.int .i64 c, .bool false, .bool false, .int .i64 0, .slice none 0 0]).c5
  exact bodyPost_ret (v := .agg #[.int .i64 c, .bool false, .bool false, .int .i64 0, .slice none 0 0]) (by simp [results, Try.results18, go_sem, k0, k1, k2, k3, k4]) rfl ⟨rfl, (Fr.refl _ _).alloc _⟩

theorem conv_any {v : Value} {l : List Int} (hv : Come EB w v l) : (convert 29 9 v).run Try.prog w = .ok (.string (strOfNums l)) w := by
  rcases hv with ⟨rfl, rfl⟩ | ⟨a, cap, rfl, hc, hr⟩
  · exact run_convert_bytes_nil w 29 5 Try.underlying29 Try.underlying5 0 0 9 Try.underlying9
  · have hl : (loadCells a l.length).run Try.prog w = .ok (l.map (Value.int .u8)).toArray w := by
      have := run_loadCells_list (P := Try.prog) w a (l.map (Value.int .u8)) (fun j u hj => by
        refine hr j u ?_
        have e : flat EB l = l.map (Value.int .u8) := by
          unfold flat EB
          clear hr hc hj
          induction l with
          | nil => rfl
          | cons x r ih => rw [List.flatMap_cons, List.map_cons, ih]; rfl
        rw [e]
        exact hj)
      simpa using this
    rw [run_convert_bytes_string w 29 9 5 _ l.length cap Try.underlying29 Try.underlying5 Try.underlying9, run_bytesToString w _ l.length cap l hl, foldl_push_bytes]
    simp [strOfNums, ByteArray.empty, ByteArray.emptyWithCapacity]
    rfl

theorem str_inj {l m : List Int} (hl : ∀ b ∈ l, 0 ≤ b ∧ b ≤ 255) (hm : ∀ b ∈ m, 0 ≤ b ∧ b ≤ 255) (h : strOfNums l = strOfNums m) : l = m := by
  have h1 := congrArg (fun s => s.data.toList) h
  simp only [strOfNums_data] at h1
  clear h
  induction l generalizing m with
  | nil => cases m with
    | nil => rfl
    | cons y m => simp at h1
  | cons x l ih => cases m with
    | nil => simp at h1
    | cons y m =>
      simp only [List.map_cons, List.cons.injEq] at h1
      obtain ⟨e, h2⟩ := h1
      have hx := hl x (by simp)
      have hy := hm y (by simp)
      have e2 := congrArg UInt8.toNat e
      rw [UInt8.toNat_ofNat', UInt8.toNat_ofNat'] at e2
      have : x = y := by omega
      rw [this, ih (fun b hb => hl b (by simp [hb])) (fun b hb => hm b (by simp [hb])) h2]

/-- what '==' of two strings of bytes tells -/
theorem str_eq (l : List Int) : ((strOfNums l).toList == (strOfNums l).toList) = true := beq_self_eq_true _
theorem str_ne {l m : List Int} (hl : ∀ b ∈ l, 0 ≤ b ∧ b ≤ 255) (hm : ∀ b ∈ m, 0 ≤ b ∧ b ≤ 255) (h : l ≠ m) : ((strOfNums l).toList == (strOfNums m).toList) = false := by
  rw [beq_eq_false_iff_ne]
  intro he
  rw [ByteArray.toList_eq, ByteArray.toList_eq] at he
  refine h (str_inj hl hm ?_)
  unfold strOfNums at he ⊢
  simpa using he

theorem deltas_byte : ∀ (l : List Int) (last : Int), ∀ b ∈ deltas last l, 0 ≤ b ∧ b ≤ 255
  | [], _, b, hb => by simp [deltas] at hb
  | x :: l, last, b, hb => by
    rw [deltas] at hb
    rcases List.mem_append.1 hb with h | h
    · exact vint_byte _ b h
    · exact deltas_byte l x b h
theorem encR_byte {r : Rp} (h : GoodR r) : ∀ b ∈ encR r, 0 ≤ b ∧ b ≤ 255 := by
  intro b hb
  unfold encR mid at hb
  rcases List.mem_cons.1 hb with rfl | hb
  · have := h.1
    have := h.2.1
    omega
  · rcases List.mem_append.1 hb with hb | hb
    · split at hb
      · rcases List.mem_cons.1 hb with rfl | hb
        · omega
        · exact vint_byte _ b hb
      · split at hb
        · rcases List.mem_cons.1 hb with rfl | hb
          · omega
          · exact vint_byte _ b hb
        · simp at hb
    · exact deltas_byte _ _ b hb

theorem two_sl (w : World) (a b : Int) : Sl EI (w.alloc (.cells #[.int .i64 a, .int .i64 b] 3)) (.slice (some ⟨w.heap.size, 0, none⟩) 2 2) [a, b] := lit_sl EI_ok [a, b] rfl rfl _

theorem lives_true : Calls Try.prog 9 #[] w fun e w' => e = .returned (.bool true) ∧ Fr Nil w w' := by
  have hgood : GoodR ⟨0, true, true, 2, [3, 5]⟩ := by
    unfold GoodR Ris Odd Asc
    refine ⟨by decide, by decide, by simp, by simp, by decide, by decide, by simp, by simp, by simp, ⟨fun i x y hx hy => ?_, by simp⟩⟩
    match i, hx, hy with
    | 0, hx, hy => simp at hx hy; omega
    | 1, hx, hy => simp at hx hy
    | k + 2, hx, hy => simp at hx
  have hT : encR ⟨0, true, true, 2, [3, 5]⟩ = [0, 2, 4, 6, 4] := by
    unfold encR mid deltas deltas deltas fold
    simp [vint_low]
  have K1 := Lib.hid (encode_ok _ ⟨0, true, true, 2, [3, 5]⟩ _ hgood (by decide) ⟨_, rfl, two_sl w 3 5⟩)
  rw [hT] at K1
  have K2 := Lib.hid (fun W => changed_any W 5)
  have hS : strOfNums [0, 2, 4, 6, 4] = ⟨#[0, 2, 4, 6, 4]⟩ := by decide +kernel
  have KC := Lib.hid (fun W u (h : Come EB W u [0, 2, 4, 6, 4]) => conv_any W h)
  rw [hS] at KC
  have hfield : ∀ W, (Instr.field 27 (.agg #[.int .i64 5, .bool false, .bool false, .int .i64 0, .slice none 0 0]) 0).run Try.prog W = .ok (.int .i64 5) W := fun W => by kernel_rfl
  unfold rv rc at *
  clear hgood hT hS
  go_enter Try.func9, Try.ntmps9
  go_wp2_with fail
  refine K1.out.mono ?_
  rintro e w1 ⟨u, rfl, hf1, ho⟩
  have hcv := KC.out w1 u (ho.sl EB_ok).come
  have HF := Lib.hid (((Fr.refl Nil w).alloc _).trans hf1)
  clear hf1 ho
  go_wp2_with fail
  refine (K2.out _).mono ?_
  rintro e w2 ⟨rfl, hf2⟩
  have HF2 := Lib.hid (HF.out.trans hf2)
  clear hf2
  go_wp2_with fail
  go_ret
  exact ⟨rfl, HF2.out⟩
end
end Go.Proofs.Ytfkjonpbopoiaaa.ReplyE
