/- Numbers as bytes: the walks of unfolded, bytes.Equal, read, Read. -/
import Derived.Test.YtdfggjniemncgaaVintB
import Derived.Test.YtdfggjniemncgaaVintC
import Derived.Lib.VarintBits
import Derived.Laws.BytesArg
import Derived.Deep.RegionHeld3
namespace Go.Proofs.Ytdfggjniemncgaa.VintD
open Go.RowKit Base Slices Quiet VintA VintB VintC
set_option linter.unusedVariables false
set_option linter.unusedSimpArgs false

theorem and127 : ∀ x < 256, x &&& 127 = x % 128 := by decide +kernel
theorem andn (x : Int) (h0 : 0 ≤ x) (h1 : x ≤ 255) : bits .andNot .u8 x 128 = ((x.toNat % 128 : Nat) : Int) := by
  rw [u8_andNot x 128 h0 (by omega) (by decide) (by decide), show 255 - (128 : Int).toNat = 127 by decide, and127 _ (by omega)]
theorem step_bits (j V : Nat) (x : Int) (hj : j < 10) (hV : V < 128 ^ j) (h0 : 0 ≤ x) (h1 : x ≤ 255) :
    bits .or .u64 (V : Int) (IntKind.u64.wrap (IntKind.u64.wrap (bits .andNot .u8 x 128) * 2 ^ (7 * j))) = (((V + 128 ^ j * (x.toNat % 128)) % 18446744073709551616 : Nat) : Int) := by
  rw [andn x h0 h1, VintB.wrap64u, VintB.wrap64u]
  have ha : x.toNat % 128 < 128 := Nat.mod_lt _ (by decide)
  generalize x.toNat % 128 = a at *
  have hc : j = 0 ∨ j = 1 ∨ j = 2 ∨ j = 3 ∨ j = 4 ∨ j = 5 ∨ j = 6 ∨ j = 7 ∨ j = 8 ∨ j = 9 := by omega
  clear h0 h1 hj
  rcases hc with rfl | rfl | rfl | rfl | rfl | rfl | rfl | rfl | rfl | rfl
  · simp only [Nat.reduceMul, Int.reducePow, Nat.reducePow] at *
    rw [u64_orv0 _ _ (by omega) (by omega) (by omega) (by omega) (by omega)]
    omega
  · simp only [Nat.reduceMul, Int.reducePow, Nat.reducePow] at *
    rw [u64_orv7 _ _ (by omega) (by omega) (by omega) (by omega) (by omega)]
    omega
  · simp only [Nat.reduceMul, Int.reducePow, Nat.reducePow] at *
    rw [u64_orv14 _ _ (by omega) (by omega) (by omega) (by omega) (by omega)]
    omega
  · simp only [Nat.reduceMul, Int.reducePow, Nat.reducePow] at *
    rw [u64_orv21 _ _ (by omega) (by omega) (by omega) (by omega) (by omega)]
    omega
  · simp only [Nat.reduceMul, Int.reducePow, Nat.reducePow] at *
    rw [u64_orv28 _ _ (by omega) (by omega) (by omega) (by omega) (by omega)]
    omega
  · simp only [Nat.reduceMul, Int.reducePow, Nat.reducePow] at *
    rw [u64_orv35 _ _ (by omega) (by omega) (by omega) (by omega) (by omega)]
    omega
  · simp only [Nat.reduceMul, Int.reducePow, Nat.reducePow] at *
    rw [u64_orv42 _ _ (by omega) (by omega) (by omega) (by omega) (by omega)]
    omega
  · simp only [Nat.reduceMul, Int.reducePow, Nat.reducePow] at *
    rw [u64_orv49 _ _ (by omega) (by omega) (by omega) (by omega) (by omega)]
    omega
  · simp only [Nat.reduceMul, Int.reducePow, Nat.reducePow] at *
    rw [u64_orv56 _ _ (by omega) (by omega) (by omega) (by omega) (by omega)]
    omega
  · simp only [Nat.reduceMul, Int.reducePow, Nat.reducePow] at *
    rw [u64_orv63 _ _ (by omega) (by omega) (by omega) (by omega) (by omega)]
    omega
theorem xor_comm64 (a b : Int) : bits .xor .i64 a b = bits .xor .i64 b a := by
  show IntKind.i64.wrap ((BitVec.ofInt 64 a ^^^ BitVec.ofInt 64 b).toNat : Int) = IntKind.i64.wrap ((BitVec.ofInt 64 b ^^^ BitVec.ofInt 64 a).toNat : Int)
  rw [BitVec.xor_comm]
theorem xor_zero64 (n : Nat) (h : n < 9223372036854775808) : bits .xor .i64 (n : Int) 0 = n := by
  show IntKind.i64.wrap ((BitVec.ofInt 64 (n : Int) ^^^ BitVec.ofInt 64 0).toNat : Int) = _
  have h2 : (BitVec.ofInt 64 (n : Int)).toNat = n := by rw [BitVec.ofInt_natCast, BitVec.toNat_ofNat]; exact Nat.mod_eq_of_lt (by omega)
  have h3 : (BitVec.ofInt 64 0).toNat = 0 := by decide
  rw [BitVec.toNat_xor, h2, h3, Nat.xor_zero, IntKind.wrap_i64]
  omega
theorem unfold_bits (z : Nat) (hz : z < 18446744073709551616) : bits .xor .i64 ((z : Int) / 2) (wrap64 (-wrap64 (bits .and .u64 (z : Int) 1))) = unfold_ z := by
  rw [Lib.u64_and1 _ (by omega) (by omega)]
  have e : ((z : Int) / 2) = ((z / 2 : Nat) : Int) := by omega
  rw [e]
  by_cases h : z % 2 = 0
  · have e2 : wrap64 (-wrap64 ((z : Int) % 2)) = 0 := by rw [show (z : Int) % 2 = 0 by omega]; unfold wrap64; omega
    rw [e2, xor_zero64 _ (by omega)]
    unfold unfold_
    rw [if_pos h]
  · have e2 : wrap64 (-wrap64 ((z : Int) % 2)) = -1 := by rw [show (z : Int) % 2 = 1 by omega]; unfold wrap64; omega
    rw [e2, xor_comm64, Lib.i64_not _ (by omega)]
    unfold unfold_
    rw [if_neg h]

theorem wr1 (j : Nat) (h : j < 10) : IntKind.i64.wrap ((j : Int) + 1) = (j : Int) + 1 := by rw [IntKind.wrap_i64]; omega
theorem wr2 (j : Nat) (h : j < 10) : wrap64 ((j : Int) + 1) = (j : Int) + 1 := by unfold wrap64; omega
theorem wr3 (j : Nat) : ((j : Int) + 1).toNat = j + 1 := by omega

/-- what read tells of bytes -/
def Reads (b : List Int) (e : Ending) : Prop := (∃ z, Begins b z ∧ e = .returned (.tuple #[.int .i64 (unfold_ z), .int .i64 ((vint z).length : Nat)])) ∨ ((∀ z, ¬ Begins b z) ∧ e = .returned (.tuple #[.int .i64 0, .int .i64 0]))
def Bytes (b : List Int) : Prop := ∀ x ∈ b, 0 ≤ x ∧ x ≤ 255
theorem vint_bytes (z : Nat) : Bytes (vint z) := vint_byte z
theorem Bytes.take {b : List Int} (h : Bytes b) (k : Nat) : Bytes (b.take k) := fun x hx => h x (List.mem_of_mem_take hx)
theorem Bytes.drop {b : List Int} (h : Bytes b) (k : Nat) : Bytes (b.drop k) := fun x hx => h x (List.mem_of_mem_drop hx)

theorem str_inj {l m : List Int} (hl : Bytes l) (hm : Bytes m) (h : strOfNums l = strOfNums m) : l = m := by
  have h1 := congrArg (fun s => s.data.toList) h
  simp only [strOfNums_data] at h1
  clear h
  induction l generalizing m with
  | nil => cases m with
    | nil => rfl
    | cons y m => simp at h1
  | cons x l ih => cases m with
    | nil => simp at h1
    | cons y m =>
      simp only [List.map_cons, List.cons.injEq] at h1
      obtain ⟨e, h2⟩ := h1
      have hx := hl x (by simp)
      have hy := hm y (by simp)
      have e2 := congrArg UInt8.toNat e
      rw [UInt8.toNat_ofNat', UInt8.toNat_ofNat'] at e2
      have : x = y := by omega
      rw [this, ih (fun b hb => hl b (by simp [hb])) (fun b hb => hm b (by simp [hb])) h2]
/-- what '==' of two strings of bytes tells -/
theorem str_dec {l m : List Int} (hl : Bytes l) (hm : Bytes m) : ((strOfNums l).toList == (strOfNums m).toList) = decide (l = m) := by
  by_cases h : l = m
  · subst h
    rw [decide_eq_true rfl]
    exact beq_self_eq_true _
  · rw [decide_eq_false h, beq_eq_false_iff_ne]
    intro he
    rw [ByteArray.toList_eq, ByteArray.toList_eq] at he
    refine h (str_inj hl hm ?_)
    unfold strOfNums at he ⊢
    simpa using he

section
variable (w : World)
theorem conv_any {v : Value} {l : List Int} (hv : Come EB w v l) : (convert 22 9 v).run Try.prog w = .ok (.string (strOfNums l)) w := by
  rcases hv with ⟨rfl, rfl⟩ | ⟨a, cap, rfl, hc, hr⟩
  · exact run_convert_bytes_nil w 22 5 Try.underlying22 Try.underlying5 0 0 9 Try.underlying9
  · have hl : (loadCells a l.length).run Try.prog w = .ok (l.map (Value.int .u8)).toArray w := by
      have := run_loadCells_list (P := Try.prog) w a (l.map (Value.int .u8)) (fun j u hj => by
        refine hr j u ?_
        have e : flat EB l = l.map (Value.int .u8) := by
          unfold flat EB
          clear hr hc hj
          induction l with
          | nil => rfl
          | cons x r ih => rw [List.flatMap_cons, List.map_cons, ih]; rfl
        rw [e]
        exact hj)
      simpa using this
    rw [run_convert_bytes_string w 22 9 5 _ l.length cap Try.underlying22 Try.underlying5 Try.underlying9, run_bytesToString w _ l.length cap l hl, foldl_push_bytes]
    simp [strOfNums, ByteArray.empty, ByteArray.emptyWithCapacity]
    rfl

theorem equal_any (l m : List Int) (v u : Value) (hl : Bytes l) (hm : Bytes m) (hv : Come EB w v l) (hu : Come EB w u m) :
    Calls Try.prog 36 #[v, u] w fun e w' => e = .returned (.bool (decide (l = m))) ∧ Fr Nil w w' := by
  have h1 := conv_any w hv
  have h2 := conv_any w hu
  have HD := Lib.hid (str_dec hl hm)
  clear hv hu hl hm
  generalize strOfNums l = s at *
  generalize strOfNums m = t at *
  go_enter Try.func36, Try.ntmps36
  go_wp2_with fail
  go_ret
  exact ⟨congrArg (fun b => Ending.returned (.bool b)) HD.out, Fr.refl _ _⟩

theorem unfolded_any (z : Nat) (hz : z < 18446744073709551616) :
    Calls Try.prog 35 #[.int .u64 (z : Int)] w fun e w' => e = .returned (.int .i64 (unfold_ z)) ∧ Fr Nil w w' := by
  have h0 : (0 : Int) ≤ z := Int.natCast_nonneg z
  have h1 : (z : Int) < 18446744073709551616 := by omega
  have HX := Lib.hid (unfold_bits z hz)
  go_enter Try.func35, Try.ntmps35
  go_wp2_with fail
  go_ret
  exact ⟨congrArg (fun x => Ending.returned (.int .i64 x)) HX.out, Fr.refl _ _⟩

theorem unfold_range {z : Nat} (hz : z < 18446744073709551616) : -9223372036854775808 ≤ unfold_ z ∧ unfold_ z ≤ 9223372036854775807 := by
  unfold unfold_
  split <;> omega

set_option maxRecDepth 100000 in
set_option maxHeartbeats 4000000 in
theorem read_any (b : List Int) (v : Value) (hl : b.length ≤ 100000) (hb : Bytes b) (hv : Sl EB w v b) :
    Calls Try.prog 25 #[v] w fun e w' => Reads b e ∧ Fr Nil w w' := by
  rcases hv with ⟨rfl, rfl⟩ | ⟨g, o, cap, rfl, hc, ha, hr⟩
  · go_enter Try.func25, Try.ntmps25
    go_wp2_with fail
    refine wp_loop_rounds 1 ?_
    rw [rounds_succ]
    go_wp2
    exact bodyPost_ret (v := .tuple #[.int .i64 0, .int .i64 0]) (by simp [results, Try.results25, go_sem]) rfl ⟨Or.inr ⟨none_of (i := 0) (Or.inl rfl) (by simp), rfl⟩, Fr.refl _ _⟩
  · have HR := Lib.hid hr
    have HSl := Lib.hid (show Sl EB w (.slice (some ⟨g, o, none⟩) b.length cap) b from Or.inr ⟨g, o, cap, rfl, hc, ha, hr⟩)
    have KU := Lib.hid (fun W z hz => unfolded_any W z hz)
    have KP := Lib.hid (fun W n h0 h1 => put_any W.heap.size [] n (.slice none 0 0) W h0 h1 (by simp) (Own.nil W _) (Nat.le_refl _))
    have KE := Lib.hid (fun W l m a c hl hm h1 h2 => equal_any W l m a c hl hm h1 h2)
    clear hr
    go_enter Try.func25, Try.ntmps25
    go_wp2_with fail
    go_loopw [4, 5] (fun z i wr => ∃ j : Nat, i = .int .i64 j ∧ j ≤ b.length ∧ j ≤ 10 ∧ z = .int .u64 (val (b.take j) % 18446744073709551616 : Nat) ∧ (∀ x ∈ b.take j, 128 ≤ x) ∧ Fr Nil w wr) (fun _ i _ => b.length - (intOf i).toNat)
    case atStart => exact ⟨0, rfl, by omega, by omega, rfl, by simp, Fr.refl _ _⟩
    case round =>
      obtain ⟨j, rfl, hj, hj10, rfl, hs, hf⟩ := hrel
      have HF := Lib.hid hf
      have HS := Lib.hid hs
      have hj0 : (0 : Int) ≤ j := Int.natCast_nonneg j
      clear hf hs
      by_cases hlt : j < b.length
      · by_cases hlt10 : j < 10
        · have hlt' : (j : Int) < b.length := by omega
          have hlt10' : (j : Int) < 10 := by omega
          obtain ⟨x, hx⟩ : ∃ x, b[j]? = some x := ⟨b[j], List.getElem?_eq_getElem hlt⟩
          have c0 := (HR.out.fr HF.out ha id).at EB_ok hx (j := 0) (u := .int .u8 x) rfl
          simp only [EB, Nat.mul_one, Nat.add_zero] at c0
          have hxb := hb x (List.mem_of_getElem? hx)
          have hx0 : 0 ≤ x := hxb.1
          have hx1 : x ≤ 255 := hxb.2
          have HX := Lib.hid hx
          have hvl := val_take_lt (b := b) (i := j) (by omega)
          have hv64 : val (b.take j) < 18446744073709551616 := Nat.lt_of_lt_of_le hvl (Nat.le_trans (Nat.pow_le_pow_right (by decide) (show j ≤ 9 by omega)) (by decide))
          have HB := Lib.hid ((step_bits j _ x hlt10 hvl hx0 hx1).trans (by rw [← val_step hx]))
          have HVS := Lib.hid (Nat.mod_eq_of_lt hv64)
          rw [HVS.out]
          generalize hV : val (b.take j) = V at *
          clear hx hxb hvl hV
          by_cases hx128 : 128 ≤ x
          · go_wp2_with fail
            go_roundw
            case rel =>
              refine ⟨j + 1, by go_num, by omega, by omega, congrArg (Value.int .u64) HB.out, fun y hy => ?_, HF.out⟩
              rw [List.take_add_one, HX.out] at hy
              rcases List.mem_append.1 hy with h | h
              · exact HS.out y h
              · simp at h; subst h; exact hx128
            case measure => simp [intOf]; omega
          · have hx128' : x < 128 := by omega
            go_wp2_with fail
            rw [HB.out]
            refine (KU.out _ _ (Nat.mod_lt _ (by decide))).mono ?_
            rintro e w1 ⟨rfl, hf1⟩
            have HF1 := Lib.hid (HF.out.trans hf1)
            clear hf1
            obtain ⟨Z, hZ⟩ : ∃ Z, Z = val (b.take (j + 1)) % 18446744073709551616 := ⟨_, rfl⟩
            have hZl : Z < 18446744073709551616 := by rw [hZ]; exact Nat.mod_lt _ (by decide)
            rw [← hZ]
            have HZ := Lib.hid hZ
            have HZL := Lib.hid hZl
            have HT := Lib.hid (show Come EB w (.slice (some ⟨g, o, none⟩) (j + 1) cap) (b.take (j + 1)) from HSl.out.come.take EB_ok (j + 1) (by omega))
            have HN := Lib.hid (unfold_range hZl)
            have HFU := Lib.hid (fold_unfold Z)
            have hcap : (j : Int) + 1 ≤ cap := by omega
            have hj1 : (0 : Int) ≤ (j : Int) + 1 := by omega
            have hw1 : IntKind.i64.wrap ((j : Int) + 1) = (j : Int) + 1 := wr1 j hlt10
            have hw2 : wrap64 ((j : Int) + 1) = (j : Int) + 1 := wr2 j hlt10
            have hw3 : ((j : Int) + 1).toNat = j + 1 := wr3 j
            obtain ⟨n, hn⟩ : ∃ n, n = unfold_ Z := ⟨_, rfl⟩
            rw [← hn] at HN HFU ⊢
            have HUZ := Lib.hid hn
            clear hn
            clear hZ hZl HB
            go_wp2_with fail
            by_cases hck : [] ++ vint (fold n) = b.take (j + 1)
            · have KE1 := Lib.hid (fun (W : World) (a c : Value) (h1 : Come EB W a ([] ++ vint (fold n))) (h2 : Come EB W c (b.take (j + 1))) => KE.out W ([] ++ vint (fold n)) (b.take (j + 1)) a c (vint_bytes (fold n)) (hb.take (j + 1)) h1 h2)
              rw [decide_eq_true hck] at KE1
              have HCK := Lib.hid hck
              clear hck
              go_region_held3 (fun w' => Fr Nil w1 w') (first | (exact z1) | (exact (Fr.refl Nil w1).drew) | (exact Fr.refl Nil w1))
                (first | (go_at_call 23; (with_reducible refine (KP.out _ _ HN.out.1 HN.out.2).mono ?_); rintro e wa ⟨ua, rfl, hxa, hoa⟩; have z1 : Fr Nil w1 wa := ((Fr.refl Nil w1).drew).then hxa.1 (fun i hi hlt => by cases hi); have OA := Lib.hid (hoa.sl EB_ok).come) | (go_at_call 36; (with_reducible refine (KE1.out _ _ _ OA.out (HT.out.fr (HF1.out.trans z1))).mono ?_); rintro e wb ⟨rfl, hfb⟩; have z2 : Fr Nil w1 wb := Fr.trans z1 hfb; have z1 := z2))
              all_goals
                go_wp2_with fail
                refine bodyPost_ret (v := .tuple #[.int .i64 n, .int .i64 ((j : Int) + 1)]) (by simp [results, Try.results25, go_sem]) rfl ⟨Or.inl ⟨Z, check_yes (i := j) HZL.out ?_, ?_⟩, HF1.out.trans z1⟩
                · have h := HCK.out
                  rw [List.nil_append, HFU.out] at h
                  exact h
                · have h := congrArg List.length HCK.out
                  rw [List.nil_append, HFU.out, List.length_take, Nat.min_eq_left (by omega)] at h
                  rw [h, ← HUZ.out]
                  rfl
            · have KE1 := Lib.hid (fun (W : World) (a c : Value) (h1 : Come EB W a ([] ++ vint (fold n))) (h2 : Come EB W c (b.take (j + 1))) => KE.out W ([] ++ vint (fold n)) (b.take (j + 1)) a c (vint_bytes (fold n)) (hb.take (j + 1)) h1 h2)
              rw [decide_eq_false hck] at KE1
              have HCK := Lib.hid hck
              clear hck
              go_region_held3 (fun w' => Fr Nil w1 w') (first | (exact z1) | (exact (Fr.refl Nil w1).drew) | (exact Fr.refl Nil w1))
                (first | (go_at_call 23; (with_reducible refine (KP.out _ _ HN.out.1 HN.out.2).mono ?_); rintro e wa ⟨ua, rfl, hxa, hoa⟩; have z1 : Fr Nil w1 wa := ((Fr.refl Nil w1).drew).then hxa.1 (fun i hi hlt => by cases hi); have OA := Lib.hid (hoa.sl EB_ok).come) | (go_at_call 36; (with_reducible refine (KE1.out _ _ _ OA.out (HT.out.fr (HF1.out.trans z1))).mono ?_); rintro e wb ⟨rfl, hfb⟩; have z2 : Fr Nil w1 wb := Fr.trans z1 hfb; have z1 := z2))
              all_goals
                go_wp2_with fail
                refine bodyPost_ret (v := .tuple #[.int .i64 0, .int .i64 0]) (by simp [results, Try.results25, go_sem]) rfl ⟨Or.inr ⟨check_no HX.out hx128' HS.out (fun h => HCK.out ?_), rfl⟩, HF1.out.trans z1⟩
                rw [List.nil_append, HFU.out, HZ.out]
                exact h
        · obtain rfl : j = 10 := by omega
          have hlt' : ((10 : Nat) : Int) < b.length := by omega
          have hlt3 : (10 : Int) < b.length := by omega
          go_wp2_with fail
          exact bodyPost_ret (v := .tuple #[.int .i64 0, .int .i64 0]) (by simp [results, Try.results25, go_sem]) rfl ⟨Or.inr ⟨none_of (Or.inr rfl) HS.out, rfl⟩, HF.out⟩
      · obtain rfl : j = b.length := by omega
        go_wp2_with fail
        exact bodyPost_ret (v := .tuple #[.int .i64 0, .int .i64 0]) (by simp [results, Try.results25, go_sem]) rfl ⟨Or.inr ⟨none_of (Or.inl rfl) HS.out, rfl⟩, HF.out⟩
theorem Read_any (b : List Int) (v : Value) (hl : b.length ≤ 100000) (hb : Bytes b) (hv : Sl EB w v b) :
    Calls Try.prog 14 #[v] w fun e w' => Reads b e ∧ Fr Nil w w' := by
  have K := Lib.hid (read_any w b v hl hb hv)
  clear hv
  go_enter Try.func14, Try.ntmps14
  go_wp2_with fail
  refine K.out.mono ?_
  rintro e w1 ⟨hrd, hf⟩
  have HF := Lib.hid hf
  rcases hrd with ⟨z, hz, rfl⟩ | ⟨hn, rfl⟩
  · have HZ := Lib.hid hz
    clear hz hf
    go_wp2_with fail
    exact bodyPost_ret (v := .tuple #[.int .i64 (unfold_ z), .int .i64 ((vint z).length : Nat)]) (by simp [results, Try.results14, go_sem]) rfl ⟨Or.inl ⟨z, HZ.out, rfl⟩, HF.out⟩
  · have HN := Lib.hid hn
    clear hn hf
    go_wp2_with fail
    exact bodyPost_ret (v := .tuple #[.int .i64 0, .int .i64 0]) (by simp [results, Try.results14, go_sem]) rfl ⟨Or.inr ⟨HN.out, rfl⟩, HF.out⟩
end
end Go.Proofs.Ytdfggjniemncgaa.VintD
