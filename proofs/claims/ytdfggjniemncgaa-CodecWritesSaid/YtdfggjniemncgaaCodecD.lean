/- Chapter 29: what bytes decode to; the walk of decoded. -/
import Derived.Test.YtdfggjniemncgaaCodecC
import Derived.Test.YtdfggjniemncgaaVintD
namespace Go.Proofs.Ytdfggjniemncgaa.CodecD
open Go.RowKit Base Big Slices VintA VintB VintC VintD CodecA TrapA TrapB CodecC Quiet
set_option linter.unusedVariables false
set_option linter.unusedSimpArgs false

open Classical in
/-- the number that bytes begin with -/
noncomputable def next (b : List Int) : Option Nat := if h : ∃ z, Begins b z then some h.choose else none
theorem next_some {b : List Int} {z : Nat} (h : Begins b z) : next b = some z := by
  have hx : ∃ z, Begins b z := ⟨z, h⟩
  unfold next
  rw [dif_pos hx, hx.choose_spec.unique h]
theorem next_none {b : List Int} (h : ∀ z, ¬ Begins b z) : next b = none := by
  unfold next
  rw [dif_neg fun ⟨z, hz⟩ => h z hz]
theorem next_of {b : List Int} {z : Nat} (h : next b = some z) : Begins b z := by
  unfold next at h
  split at h
  · rename_i hx
    cases h
    exact hx.choose_spec
  · cases h
theorem next_len {b : List Int} {z : Nat} (h : next b = some z) : (vint z).length ≤ b.length := by
  obtain ⟨_, r, e⟩ := next_of h
  rw [e, List.length_append]
  omega

/-- what Go's l[k:] is -/
theorem tail_sl {w : World} {g o cap : Nat} {l : List Int} (k : Nat) (hc : l.length ≤ cap) (hk : k ≤ l.length) (ha : g < w.heap.size) (hr : Row EB w g o l) : Sl EB w (.slice (if cap = k then some ⟨g, o, none⟩ else some ⟨g, o + k, none⟩) (l.length - k) (cap - k)) (l.drop k) := by
  have hld : (l.drop k).length = l.length - k := by rw [List.length_drop]
  split
  · have : l.drop k = [] := List.drop_eq_nil_of_le (by omega)
    exact Or.inr ⟨g, o, cap - k, by rw [hld], by omega, ha, by rw [this]; exact fun i p h => by cases h⟩
  · refine Or.inr ⟨g, o + k, cap - k, by rw [hld], by omega, ha, ?_⟩
    have := hr.drop EB_ok k
    simpa [EB] using this


/-- the rest of a request is read -/
noncomputable def rd (r : Rq) : List Nat → List Int → Except (Int × Int) Rq
  | [], t => if t = [] then .ok r else .error (2, 8)
  | o :: os, t => match next t with
    | none => .error (1, 8)
    | some z => rd (setN r o (unfold_ z)) os (t.drop (vint z).length)
open Classical in
/-- what bytes decode to -/
noncomputable def dec : List Int → Except (Int × Int) Rq
  | [] => .error (0, 1)
  | c :: t => if GoodQ (kq c) then rd (kq c) (offs (kq c)) t else .error (0, 8)
def Ans (R : Except (Int × Int) Rq) (e : Ending) : Prop := match R with
  | .ok r => e = .returned (qv r)
  | .error (x, c) => e = .panicked [fault x c]
theorem rd_none {r : Rq} {o : Nat} {os : List Nat} {t : List Int} (h : next t = none) : rd r (o :: os) t = .error (1, 8) := by simp only [rd, h]
theorem rd_some {r : Rq} {o : Nat} {os : List Nat} {t : List Int} {z : Nat} (h : next t = some z) : rd r (o :: os) t = rd (setN r o (unfold_ z)) os (t.drop (vint z).length) := by simp only [rd, h]
theorem ptrs_at {g : Nat} {l : List Nat} {i o : Nat} (h : l[i]? = some o) : (ptrs g l)[i]? = some (.pointer (some ⟨g, o, none⟩)) := by
  simp [ptrs, h]
theorem offs_lt (r : Rq) : ∀ o ∈ offs r, o < 18 := by
  intro o ho
  unfold offs at ho
  repeat' split at ho
  all_goals (simp at ho; omega)
theorem offs_len (r : Rq) : 1 ≤ (offs r).length ∧ (offs r).length ≤ 4 := by
  unfold offs
  repeat' split
  all_goals decide
theorem cell_int (r : Rq) {o : Nat} (h : o < 18) : ∃ n, (qc r)[o]? = some (.int .i64 n) := by
  have h : o = 0 ∨ o = 1 ∨ o = 2 ∨ o = 3 ∨ o = 4 ∨ o = 5 ∨ o = 6 ∨ o = 7 ∨ o = 8 ∨ o = 9 ∨ o = 10 ∨ o = 11 ∨ o = 12 ∨ o = 13 ∨ o = 14 ∨ o = 15 ∨ o = 16 ∨ o = 17 := by omega
  rcases h with rfl | rfl | rfl | rfl | rfl | rfl | rfl | rfl | rfl | rfl | rfl | rfl | rfl | rfl | rfl | rfl | rfl | rfl <;> exact ⟨_, rfl⟩

section
variable (w : World)
theorem index_ok (x : Int) (b : List Int) (v : Value) (hv : Sl EB w v (x :: b)) :
    Calls Try.prog 32 #[v, .int .i64 0] w fun e w' => e = .returned (.int .u8 x) ∧ Fr Nil w w' := by
  rcases hv with ⟨_, h0⟩ | ⟨g, o, cap, rfl, hc, ha, hr⟩
  · cases h0
  · have c0 := hr.at EB_ok (i := 0) (p := x) rfl (j := 0) (u := .int .u8 x) rfl
    simp only [EB, Nat.zero_mul, Nat.add_zero] at c0
    have hl : (0 : Int) < ((x :: b).length : Nat) := by rw [List.length_cons]; omega
    generalize (x :: b).length = n at *
    clear hr
    go_enter Try.func32, Try.ntmps32
    go_wp2_with fail
    go_ret
    exact ⟨rfl, Fr.refl _ _⟩
theorem index_bad (v : Value) (hv : Sl EB w v []) :
    Calls Try.prog 32 #[v, .int .i64 0] w fun e w' => e = .panicked [fault 0 1] ∧ Fr Nil w w' := by
  obtain ⟨A, c, rfl⟩ := hv.shape
  have K := Lib.hid (fun W => throw_bad 0 1 (by decide) W)
  simp only [List.length_nil]
  clear hv
  go_enter Try.func32, Try.ntmps32
  go_wp2_with fail
  refine (K.out _).mono ?_
  rintro e w1 ⟨rfl, rfl⟩
  exact ⟨rfl, rfl, Fr.refl _ _⟩


theorem kind_ok (c : Int) (hc : 0 ≤ c ∧ c ≤ 255) (hg : GoodQ (kq c)) : Calls Try.prog 31 #[.int .u8 c] w fun e w' => e = .returned (qv (kq c)) ∧ Fr Nil w w' := by
  by_cases h : 16 < c
  · exact kind_bok w c hc h hg
  · exact kind_sok w c hc h hg
theorem kind_bad (c : Int) (hc : 0 ≤ c ∧ c ≤ 255) (hg : ¬ GoodQ (kq c)) : Calls Try.prog 31 #[.int .u8 c] w fun e w' => e = .panicked [fault 0 8] ∧ Fr Nil w w' := by
  by_cases h : 16 < c
  · exact kind_bbad w c hc h hg
  · exact kind_sbad w c hc h hg

theorem read_none (u : List Int) (v : Value) (hl : u.length ≤ 100000) (hb : Bytes u) (hv : Sl EB w v u) (hn : next u = none) :
    Calls Try.prog 25 #[v] w fun e w' => e = .returned (.tuple #[.int .i64 0, .int .i64 0]) ∧ Fr Nil w w' :=
  (read_any w u v hl hb hv).mono fun e w' h => by
    obtain ⟨hr, hf⟩ := h
    rcases hr with ⟨z, hz, _⟩ | ⟨_, he⟩
    · rw [next_some hz] at hn; cases hn
    · exact ⟨he, hf⟩
theorem read_some (u : List Int) (v : Value) (hl : u.length ≤ 100000) (hb : Bytes u) (hv : Sl EB w v u) {z : Nat} (hn : next u = some z) :
    Calls Try.prog 25 #[v] w fun e w' => e = .returned (.tuple #[.int .i64 (unfold_ z), .int .i64 ((vint z).length : Nat)]) ∧ Fr Nil w w' :=
  (read_any w u v hl hb hv).mono fun e w' h => by
    obtain ⟨hr, hf⟩ := h
    rcases hr with ⟨z', hz, he⟩ | ⟨hno, _⟩
    · rw [next_some hz] at hn
      cases hn
      exact ⟨he, hf⟩
    · exact absurd (next_of hn) (hno z)

theorem decoded_nil (v : Value) (hv : Sl EB w v []) : Calls Try.prog 21 #[v] w fun e w' => Ans (dec []) e ∧ Fr Nil w w' := by
  have KI := Lib.hid (fun W (h : Fr Nil w W) => index_bad W v (hv.fr h))
  have G0 := Lib.hid ((Fr.refl Nil w).alloc (.cells #[.int .i64 0, .int .i64 0, .int .i64 0, .int .i64 0, .int .i64 0, .int .i64 0, .int .i64 0, .int .i64 0, .int .i64 0, .int .i64 0, .int .i64 0, .int .i64 0, .int .i64 0, .int .i64 0, .int .i64 0, .int .i64 0, .int .i64 0, .int .i64 0] 36))
  obtain ⟨A, c, rfl⟩ := hv.shape
  simp only [List.length_nil] at *
  clear hv
  go_enter Try.func21, Try.ntmps21
  go_wp2_with fail
  have q := KI.out _ G0.out
  refine q.mono ?_
  rintro e w1 ⟨rfl, hf⟩
  exact ⟨rfl, rfl, G0.out.trans hf⟩

theorem decoded_kind (c : Int) (t : List Int) (v : Value) (hc : 0 ≤ c ∧ c ≤ 255) (hg : ¬ GoodQ (kq c)) (hv : Sl EB w v (c :: t)) : Calls Try.prog 21 #[v] w fun e w' => Ans (dec (c :: t)) e ∧ Fr Nil w w' := by
  have KI := Lib.hid (fun W (h : Fr Nil w W) => index_ok W c t v (hv.fr h))
  have KK := Lib.hid (fun W => kind_bad W c hc hg)
  have HR := Lib.hid (show dec (c :: t) = .error (0, 8) by simp only [dec, if_neg hg])
  have G0 := Lib.hid ((Fr.refl Nil w).alloc (.cells #[.int .i64 0, .int .i64 0, .int .i64 0, .int .i64 0, .int .i64 0, .int .i64 0, .int .i64 0, .int .i64 0, .int .i64 0, .int .i64 0, .int .i64 0, .int .i64 0, .int .i64 0, .int .i64 0, .int .i64 0, .int .i64 0, .int .i64 0, .int .i64 0] 36))
  obtain ⟨A, k, rfl⟩ := hv.shape
  generalize (c :: t).length = n at *
  clear hv hg hc
  go_enter Try.func21, Try.ntmps21
  go_wp2_with fail
  have q := KI.out _ G0.out
  refine q.mono ?_
  rintro e w1 ⟨rfl, hf⟩
  have HF := Lib.hid (G0.out.trans hf)
  clear hf q
  go_wp2_with fail
  refine (KK.out _).mono ?_
  rintro e w2 ⟨rfl, hf⟩
  exact ⟨rfl, by rw [HR.out]; rfl, HF.out.trans hf⟩

set_option maxRecDepth 100000 in
set_option maxHeartbeats 2000000 in
theorem decoded_go (c : Int) (t : List Int) (v : Value) (hl : (c :: t).length ≤ 100000) (hbt : Bytes (c :: t)) (hg : GoodQ (kq c)) (hv : Sl EB w v (c :: t)) : Calls Try.prog 21 #[v] w fun e w' => Ans (dec (c :: t)) e ∧ Fr Nil w w' := by
  have hc := hbt c (by simp)
  have HBT := Lib.hid (show Bytes t from fun x hx => hbt x (by simp [hx]))
  have HTL := Lib.hid (show t.length ≤ 100000 by simp at hl; omega)
  have KI := Lib.hid (fun W (h : Fr Nil w W) => index_ok W c t v (hv.fr h))
  have KK := Lib.hid (fun W => kind_ok W c hc hg)
  have KT1 := Lib.hid (fun W => Throw_bad 1 8 (by decide) W)
  have KT2 := Lib.hid (fun W => Throw_bad 2 8 (by decide) W)
  have hR : dec (c :: t) = rd (kq c) (offs (kq c)) t := by simp only [dec, if_pos hg]
  rw [hR]
  generalize hRR : rd (kq c) (offs (kq c)) t = R
  have HRR := Lib.hid hRR
  have KF := Lib.hid (fun W g (h : Bk W g 36 (qc (kq c))) => fields_any W (kq c) hg h)
  have HO := Lib.hid (offs_lt (kq c))
  have hn := Lib.hid (offs_len (kq c))
  generalize offs (kq c) = os at *
  generalize kq c = q0 at *
  generalize hn' : os.length = n at *
  have HA := Lib.hid (Bk.new w 36 #[.int .i64 0, .int .i64 0, .int .i64 0, .int .i64 0, .int .i64 0, .int .i64 0, .int .i64 0, .int .i64 0, .int .i64 0, .int .i64 0, .int .i64 0, .int .i64 0, .int .i64 0, .int .i64 0, .int .i64 0, .int .i64 0, .int .i64 0, .int .i64 0])
  have G0 := Lib.hid ((Fr.refl Nil w).alloc (.cells #[.int .i64 0, .int .i64 0, .int .i64 0, .int .i64 0, .int .i64 0, .int .i64 0, .int .i64 0, .int .i64 0, .int .i64 0, .int .i64 0, .int .i64 0, .int .i64 0, .int .i64 0, .int .i64 0, .int .i64 0, .int .i64 0, .int .i64 0, .int .i64 0] 36))
  rcases hv with ⟨_, h0⟩ | ⟨g, o, cap, rfl, hcap, ha, hr⟩
  · cases h0
  have HT := Lib.hid (tail_sl 1 hcap (by simp) ha hr)
  have hl1 : (1 : Int) ≤ ((c :: t).length : Nat) := by rw [List.length_cons]; omega
  have hl2 : ((c :: t).length : Nat) - 1 = t.length := by simp
  have hc1 : (1 : Int) ≤ cap := by omega
  simp only [List.drop_succ_cons, List.drop_zero] at HT
  have HLL := Lib.hid (show (((c :: t).length : Nat) : Int) - 1 = t.length by simp)
  clear hr hRR hg hR hbt hl hcap hl2
  generalize (c :: t).length = m at *
  by_cases h1 : cap = 1
  · subst h1
    rw [if_pos rfl, Nat.sub_self] at HT
    go_enter Try.func21, Try.ntmps21
    go_wp2_with fail
    have q := KI.out _ G0.out
    refine q.mono ?_
    rintro e w1 ⟨rfl, hf⟩
    have HF1 := Lib.hid (G0.out.trans hf)
    have HA1 := Lib.hid (HA.out.fr hf id)
    clear hf q HA G0 KI
    go_wp2_with fail
    refine (KK.out _).mono ?_
    rintro e w2 ⟨rfl, hf⟩
    have HF2 := Lib.hid ((HF1.out.trans hf).alloc (.cells #[.int .i64 0, .int .i64 0, .int .i64 0, .int .i64 0, .int .i64 0, .int .i64 0, .int .i64 0, .int .i64 0, .int .i64 0, .int .i64 0, .int .i64 0, .int .i64 0, .int .i64 0, .int .i64 0, .int .i64 0, .int .i64 0, .int .i64 0, .int .i64 0] 36))
    have HA2 := Lib.hid ((HA1.out.fr hf id).alloc (.cells #[.int .i64 0, .int .i64 0, .int .i64 0, .int .i64 0, .int .i64 0, .int .i64 0, .int .i64 0, .int .i64 0, .int .i64 0, .int .i64 0, .int .i64 0, .int .i64 0, .int .i64 0, .int .i64 0, .int .i64 0, .int .i64 0, .int .i64 0, .int .i64 0] 36))
    have HB2 := Lib.hid (Bk.new w2 36 #[.int .i64 0, .int .i64 0, .int .i64 0, .int .i64 0, .int .i64 0, .int .i64 0, .int .i64 0, .int .i64 0, .int .i64 0, .int .i64 0, .int .i64 0, .int .i64 0, .int .i64 0, .int .i64 0, .int .i64 0, .int .i64 0, .int .i64 0, .int .i64 0])
    have HS2 := Lib.hid (HA1.out.fr hf id).lt
    have hgD : g < w.heap.size := ha
    have HQ : qv q0 = .agg (qc q0) := rfl
    clear hf HF1 HA1 KK
    rw [HQ]
    clear HQ
    go_wp2_with (first
      | (with_reducible refine wpList_storeQ (x := .tmp 3) (y := .tmp 9) (q := q0) ?_ ?_ HB2.out ?_ ?_); rfl; rfl; rfl; intro w3 hb3 hf3; have HB3 := Lib.hid hb3; have HA3 := Lib.hid (HA2.out.fr hf3 (by have := HS2.out; omega)); have HF3 := Lib.hid (HF2.out.then hf3 (fun k hk hlt => by have := HS2.out; omega)); clear hb3 hf3 HA2 HF2 HB2)
    refine Calls.mono (KF.out _ _ ?_) ?_
    · exact HB3.out
    rintro e w4 ⟨b, rfl, hb4, hf4, hs4⟩
    have HP4 := Lib.hid hb4
    have HB4 := Lib.hid (HB3.out.fr hf4 id)
    have HA4 := Lib.hid (HA3.out.fr hf4 id)
    have HF4 := Lib.hid (HF3.out.trans hf4)
    have HS4 := Lib.hid (show w2.heap.size < b by have := HB3.out.lt; omega)
    have HSl := Lib.hid (HT.out.fr HF4.out)
    clear hb4 hf4 hs4 KF HB3 HA3 HF3
    have HS3 := Lib.hid (show w.heap.size < w2.heap.size from HS2.out)
    clear HS2
    generalize w2.heap.size = g3 at *
    go_wp2_with fail
    go_loopw [0, 14] (fun v0 i wr => ∃ (k : Nat) (r : Rq) (u : List Int), k ≤ n ∧ i = .int .i64 k ∧ Sl EB wr v0 u ∧ Bk wr g3 36 (qc r) ∧ Bk wr b 62 (ptrs g3 os) ∧ Bk wr w.heap.size 36 #[.int .i64 0, .int .i64 0, .int .i64 0, .int .i64 0, .int .i64 0, .int .i64 0, .int .i64 0, .int .i64 0, .int .i64 0, .int .i64 0, .int .i64 0, .int .i64 0, .int .i64 0, .int .i64 0, .int .i64 0, .int .i64 0, .int .i64 0, .int .i64 0] ∧ (∀ j, v0.ownBlock = some j → j < w.heap.size) ∧ Fr Nil w wr ∧ rd r (os.drop k) u = R ∧ Bytes u ∧ u.length ≤ 100000) (fun _ i _ => n - (intOf i).toNat)
    case atStart => exact ⟨0, q0, t, by omega, rfl, HSl.out, HB4.out, HP4.out, HA4.out, by intro j hj; simp [Value.ownBlock] at hj; omega, HF4.out, HRR.out, HBT.out, HTL.out⟩
    case round =>
      obtain ⟨k, r, u, hk, rfl, hsu, hbr, hbp, hba, hne, hf, hrd, hbu, hul⟩ := hrel
      have HSu := Lib.hid hsu
      have HBr := Lib.hid hbr
      have HBp := Lib.hid hbp
      have HBa := Lib.hid hba
      have HN := Lib.hid hne
      have HF := Lib.hid hf
      have HRD := Lib.hid hrd
      have HBU := Lib.hid hbu
      have HUL := Lib.hid hul
      by_cases hlt : k < n
      · obtain ⟨o, ho'⟩ : ∃ o, os[k]? = some o := ⟨os[k], List.getElem?_eq_getElem (by omega)⟩
        have ho18 := HO.out o (List.mem_of_getElem? ho')
        have HD := Lib.hid (show os.drop k = o :: os.drop (k + 1) by
          obtain ⟨h1, h2⟩ := List.getElem?_eq_some_iff.1 ho'
          rw [List.drop_eq_getElem_cons h1, h2])
        have hp : wr.cell? ⟨b, k, none⟩ = some (.pointer (some ⟨g3, o, none⟩)) := by
          rw [hbp.cell]
          exact ptrs_at ho'
        have HO18 := Lib.hid ho18
        have hlt' : (k : Int) < n := by omega
        have hk9 : (k : Int) ≤ 4 := by have := hn.out; omega
        cases hx : next u with
        | none =>
          have KR := Lib.hid (read_none wr u u0 hul hbu hsu hx)
          have HE := Lib.hid (show R = .error (1, 8) by rw [← HRD.out, HD.out, rd_none hx])
          clear hsu hbr hbp hba hne hf hrd hbu hul hx ho' ho18
          go_wp2_with fail
          refine KR.out.mono ?_
          rintro e w5 ⟨rfl, hf5⟩
          have HB5 := Lib.hid (HBr.out.fr hf5 id)
          obtain ⟨n5, hn5⟩ := cell_int r HO18.out
          have c5 : w5.cell? ⟨g3, o, none⟩ = some (.int .i64 n5) := by rw [HB5.out.cell]; exact hn5
          have f5 : w5.frozen? ⟨g3, o, none⟩ = false := HB5.out.frozen o
          have HF5 := Lib.hid (HF.out.trans hf5)
          clear hf5 hn5
          go_wp2_with fail
          refine (KT1.out _).mono ?_
          rintro e w6 ⟨rfl, rfl⟩
          exact ⟨rfl, by rw [HE.out]; rfl, HF5.out.setCell (fun h => absurd h (by have := HS3.out; show ¬ g3 < w.heap.size; omega)) _⟩
        | some z =>
          have KR := Lib.hid (read_some wr u u0 hul hbu hsu hx)
          have HE := Lib.hid (show rd (setN r o (unfold_ z)) (os.drop (k + 1)) (u.drop (vint z).length) = R by rw [← HRD.out, HD.out, rd_some hx])
          have hzl := next_len hx
          have hzp := vint_len_pos z
          rcases hsu with ⟨_, h0⟩ | ⟨g2, o2, cap2, rfl, hc2, ha2, hr2⟩
          · subst h0; rw [List.length_nil] at hzl; omega
          have HT2 := Lib.hid (tail_sl (vint z).length hc2 hzl ha2 hr2)
          have HBU2 := Lib.hid (hbu.drop (vint z).length)
          have HUL2 := Lib.hid (show (u.drop (vint z).length).length ≤ 100000 by rw [List.length_drop]; omega)
          have HG2 := Lib.hid (hne g2 rfl)
          generalize u.drop (vint z).length = u2 at *
          generalize (vint z).length = s at *
          generalize unfold_ z = x at *
          have hk0 : (0 : Int) ≤ s := Int.natCast_nonneg s
          have hk1 : (s : Int) ≤ u.length := by omega
          have hk2 : (s : Int) ≤ cap2 := by omega
          have hk3 : ¬ (s : Int) = 0 := by omega
          have hk4 : ((s : Int) == 0) = false := by simpa using (show ¬ s = 0 by omega)
          clear hr2 hbr hbp hba hne hf hrd hbu hul hx ho' ho18 hzl hzp
          by_cases hcap2 : cap2 = s
          · subst hcap2
            rw [if_pos rfl, Nat.sub_self, show u.length - cap2 = 0 by omega] at HT2
            go_wp2_with fail
            refine KR.out.mono ?_
            rintro e w5 ⟨rfl, hf5⟩
            have HB5 := Lib.hid (HBr.out.fr hf5 id)
            have HP5 := Lib.hid (HBp.out.fr hf5 id)
            have HA5 := Lib.hid (HBa.out.fr hf5 id)
            obtain ⟨n5, hn5⟩ := cell_int r HO18.out
            have c5 : w5.cell? ⟨g3, o, none⟩ = some (.int .i64 n5) := by rw [HB5.out.cell]; exact hn5
            have f5 : w5.frozen? ⟨g3, o, none⟩ = false := HB5.out.frozen o
            have HF5 := Lib.hid (HF.out.trans hf5)
            have HU5 := Lib.hid (HT2.out.fr hf5)
            clear hf5 hn5
            go_wp2_with fail
            go_roundw
            case rel =>
              have hW : Fr (fun k => k = g3) w5 (w5.setCell ⟨g3, o, none⟩ (.int .i64 x)) := Fr.setCell (S := fun k => k = g3) (Fr.refl _ _) (fun _ => rfl) _
              have h3 := HS3.out
              have hg2 := HG2.out
              have h4 := HS4.out
              refine ⟨k + 1, setN r o x, u2, by omega, by go_num, HU5.out.frS hW (fun j hj hs => by simp [Value.ownBlock] at hj; omega), ?_, HP5.out.fr hW (by omega), HA5.out.fr hW (by omega), fun j hj => by simp [Value.ownBlock] at hj; omega, HF5.out.then hW (fun k hk hlt => by omega), HE.out, HBU2.out, HUL2.out⟩
              rw [← setN_cells r x HO18.out]
              exact HB5.out.put o _
            case measure => simp [intOf]; omega
          · rw [if_neg hcap2] at HT2
            go_wp2_with fail
            refine KR.out.mono ?_
            rintro e w5 ⟨rfl, hf5⟩
            have HB5 := Lib.hid (HBr.out.fr hf5 id)
            have HP5 := Lib.hid (HBp.out.fr hf5 id)
            have HA5 := Lib.hid (HBa.out.fr hf5 id)
            obtain ⟨n5, hn5⟩ := cell_int r HO18.out
            have c5 : w5.cell? ⟨g3, o, none⟩ = some (.int .i64 n5) := by rw [HB5.out.cell]; exact hn5
            have f5 : w5.frozen? ⟨g3, o, none⟩ = false := HB5.out.frozen o
            have HF5 := Lib.hid (HF.out.trans hf5)
            have HU5 := Lib.hid (HT2.out.fr hf5)
            clear hf5 hn5
            go_wp2_with fail
            go_roundw
            case rel =>
              have hW : Fr (fun k => k = g3) w5 (w5.setCell ⟨g3, o, none⟩ (.int .i64 x)) := Fr.setCell (S := fun k => k = g3) (Fr.refl _ _) (fun _ => rfl) _
              have h3 := HS3.out
              have hg2 := HG2.out
              have h4 := HS4.out
              refine ⟨k + 1, setN r o x, u2, by omega, by go_num, HU5.out.frS hW (fun j hj hs => by simp [Value.ownBlock] at hj; omega), ?_, HP5.out.fr hW (by omega), HA5.out.fr hW (by omega), fun j hj => by simp [Value.ownBlock] at hj; omega, HF5.out.then hW (fun k hk hlt => by omega), HE.out, HBU2.out, HUL2.out⟩
              rw [← setN_cells r x HO18.out]
              exact HB5.out.put o _
            case measure => simp [intOf]; omega
      · obtain rfl : k = n := by omega
        have HE : rd r [] u = R := by
          have := HRD.out
          rwa [List.drop_eq_nil_of_le (by omega)] at this
        by_cases hu : u = []
        · have HR := Lib.hid (show R = .ok r by rw [← HE, rd, if_pos hu])
          subst hu
          obtain ⟨A9, c9, rfl⟩ := hsu.shape
          simp only [List.length_nil] at *
          clear hsu hbr hbp hba hne hf hrd hbu hul HE
          go_wp2_with (first
            | (with_reducible refine wpList_loadQ (dst := some 36) ?_ HBr.out ?_); rfl
            | (with_reducible refine wpList_storeQ (x := .tmp 2) (y := .tmp 36) (q := r) ?_ ?_ HBa.out ?_ ?_); rfl; rfl; rfl; intro w6 hb6 hf6; have HA6 := Lib.hid hb6; have HF6 := Lib.hid (HF.out.then hf6 (fun k hk hlt => by omega)); clear hb6 hf6)
          exact bodyPost_ret (v := qv r) (res_run rfl rfl Try.req_str HA6.out rfl) rfl ⟨by rw [HR.out]; rfl, HF6.out⟩
        · have HR := Lib.hid (show R = .error (2, 8) by rw [← HE, rd, if_neg hu])
          have hpos : (0 : Int) < u.length := by have := List.length_pos_iff.2 hu; omega
          obtain ⟨A9, c9, rfl⟩ := hsu.shape
          clear hsu hbr hbp hba hne hf hrd hbu hul HE hu
          go_wp2_with fail
          refine (KT2.out _).mono ?_
          rintro e w6 ⟨rfl, rfl⟩
          exact ⟨rfl, by rw [HR.out]; rfl, HF.out⟩
  · rw [if_neg h1] at HT
    go_enter Try.func21, Try.ntmps21
    go_wp2_with fail
    have q := KI.out _ G0.out
    refine q.mono ?_
    rintro e w1 ⟨rfl, hf⟩
    have HF1 := Lib.hid (G0.out.trans hf)
    have HA1 := Lib.hid (HA.out.fr hf id)
    clear hf q HA G0 KI
    go_wp2_with fail
    refine (KK.out _).mono ?_
    rintro e w2 ⟨rfl, hf⟩
    have HF2 := Lib.hid ((HF1.out.trans hf).alloc (.cells #[.int .i64 0, .int .i64 0, .int .i64 0, .int .i64 0, .int .i64 0, .int .i64 0, .int .i64 0, .int .i64 0, .int .i64 0, .int .i64 0, .int .i64 0, .int .i64 0, .int .i64 0, .int .i64 0, .int .i64 0, .int .i64 0, .int .i64 0, .int .i64 0] 36))
    have HA2 := Lib.hid ((HA1.out.fr hf id).alloc (.cells #[.int .i64 0, .int .i64 0, .int .i64 0, .int .i64 0, .int .i64 0, .int .i64 0, .int .i64 0, .int .i64 0, .int .i64 0, .int .i64 0, .int .i64 0, .int .i64 0, .int .i64 0, .int .i64 0, .int .i64 0, .int .i64 0, .int .i64 0, .int .i64 0] 36))
    have HB2 := Lib.hid (Bk.new w2 36 #[.int .i64 0, .int .i64 0, .int .i64 0, .int .i64 0, .int .i64 0, .int .i64 0, .int .i64 0, .int .i64 0, .int .i64 0, .int .i64 0, .int .i64 0, .int .i64 0, .int .i64 0, .int .i64 0, .int .i64 0, .int .i64 0, .int .i64 0, .int .i64 0])
    have HS2 := Lib.hid (HA1.out.fr hf id).lt
    have hgD : g < w.heap.size := ha
    have HQ : qv q0 = .agg (qc q0) := rfl
    clear hf HF1 HA1 KK
    rw [HQ]
    clear HQ
    go_wp2_with (first
      | (with_reducible refine wpList_storeQ (x := .tmp 3) (y := .tmp 9) (q := q0) ?_ ?_ HB2.out ?_ ?_); rfl; rfl; rfl; intro w3 hb3 hf3; have HB3 := Lib.hid hb3; have HA3 := Lib.hid (HA2.out.fr hf3 (by have := HS2.out; omega)); have HF3 := Lib.hid (HF2.out.then hf3 (fun k hk hlt => by have := HS2.out; omega)); clear hb3 hf3 HA2 HF2 HB2)
    refine Calls.mono (KF.out _ _ ?_) ?_
    · exact HB3.out
    rintro e w4 ⟨b, rfl, hb4, hf4, hs4⟩
    have HP4 := Lib.hid hb4
    have HB4 := Lib.hid (HB3.out.fr hf4 id)
    have HA4 := Lib.hid (HA3.out.fr hf4 id)
    have HF4 := Lib.hid (HF3.out.trans hf4)
    have HS4 := Lib.hid (show w2.heap.size < b by have := HB3.out.lt; omega)
    have HSl := Lib.hid (HT.out.fr HF4.out)
    clear hb4 hf4 hs4 KF HB3 HA3 HF3
    have HS3 := Lib.hid (show w.heap.size < w2.heap.size from HS2.out)
    clear HS2
    generalize w2.heap.size = g3 at *
    go_wp2_with fail
    go_loopw [0, 14] (fun v0 i wr => ∃ (k : Nat) (r : Rq) (u : List Int), k ≤ n ∧ i = .int .i64 k ∧ Sl EB wr v0 u ∧ Bk wr g3 36 (qc r) ∧ Bk wr b 62 (ptrs g3 os) ∧ Bk wr w.heap.size 36 #[.int .i64 0, .int .i64 0, .int .i64 0, .int .i64 0, .int .i64 0, .int .i64 0, .int .i64 0, .int .i64 0, .int .i64 0, .int .i64 0, .int .i64 0, .int .i64 0, .int .i64 0, .int .i64 0, .int .i64 0, .int .i64 0, .int .i64 0, .int .i64 0] ∧ (∀ j, v0.ownBlock = some j → j < w.heap.size) ∧ Fr Nil w wr ∧ rd r (os.drop k) u = R ∧ Bytes u ∧ u.length ≤ 100000) (fun _ i _ => n - (intOf i).toNat)
    case atStart => exact ⟨0, q0, t, by omega, rfl, HSl.out, HB4.out, HP4.out, HA4.out, by intro j hj; simp [Value.ownBlock] at hj; omega, HF4.out, HRR.out, HBT.out, HTL.out⟩
    case round =>
      obtain ⟨k, r, u, hk, rfl, hsu, hbr, hbp, hba, hne, hf, hrd, hbu, hul⟩ := hrel
      have HSu := Lib.hid hsu
      have HBr := Lib.hid hbr
      have HBp := Lib.hid hbp
      have HBa := Lib.hid hba
      have HN := Lib.hid hne
      have HF := Lib.hid hf
      have HRD := Lib.hid hrd
      have HBU := Lib.hid hbu
      have HUL := Lib.hid hul
      by_cases hlt : k < n
      · obtain ⟨o, ho'⟩ : ∃ o, os[k]? = some o := ⟨os[k], List.getElem?_eq_getElem (by omega)⟩
        have ho18 := HO.out o (List.mem_of_getElem? ho')
        have HD := Lib.hid (show os.drop k = o :: os.drop (k + 1) by
          obtain ⟨h1, h2⟩ := List.getElem?_eq_some_iff.1 ho'
          rw [List.drop_eq_getElem_cons h1, h2])
        have hp : wr.cell? ⟨b, k, none⟩ = some (.pointer (some ⟨g3, o, none⟩)) := by
          rw [hbp.cell]
          exact ptrs_at ho'
        have HO18 := Lib.hid ho18
        have hlt' : (k : Int) < n := by omega
        have hk9 : (k : Int) ≤ 4 := by have := hn.out; omega
        cases hx : next u with
        | none =>
          have KR := Lib.hid (read_none wr u u0 hul hbu hsu hx)
          have HE := Lib.hid (show R = .error (1, 8) by rw [← HRD.out, HD.out, rd_none hx])
          clear hsu hbr hbp hba hne hf hrd hbu hul hx ho' ho18
          go_wp2_with fail
          refine KR.out.mono ?_
          rintro e w5 ⟨rfl, hf5⟩
          have HB5 := Lib.hid (HBr.out.fr hf5 id)
          obtain ⟨n5, hn5⟩ := cell_int r HO18.out
          have c5 : w5.cell? ⟨g3, o, none⟩ = some (.int .i64 n5) := by rw [HB5.out.cell]; exact hn5
          have f5 : w5.frozen? ⟨g3, o, none⟩ = false := HB5.out.frozen o
          have HF5 := Lib.hid (HF.out.trans hf5)
          clear hf5 hn5
          go_wp2_with fail
          refine (KT1.out _).mono ?_
          rintro e w6 ⟨rfl, rfl⟩
          exact ⟨rfl, by rw [HE.out]; rfl, HF5.out.setCell (fun h => absurd h (by have := HS3.out; show ¬ g3 < w.heap.size; omega)) _⟩
        | some z =>
          have KR := Lib.hid (read_some wr u u0 hul hbu hsu hx)
          have HE := Lib.hid (show rd (setN r o (unfold_ z)) (os.drop (k + 1)) (u.drop (vint z).length) = R by rw [← HRD.out, HD.out, rd_some hx])
          have hzl := next_len hx
          have hzp := vint_len_pos z
          rcases hsu with ⟨_, h0⟩ | ⟨g2, o2, cap2, rfl, hc2, ha2, hr2⟩
          · subst h0; rw [List.length_nil] at hzl; omega
          have HT2 := Lib.hid (tail_sl (vint z).length hc2 hzl ha2 hr2)
          have HBU2 := Lib.hid (hbu.drop (vint z).length)
          have HUL2 := Lib.hid (show (u.drop (vint z).length).length ≤ 100000 by rw [List.length_drop]; omega)
          have HG2 := Lib.hid (hne g2 rfl)
          generalize u.drop (vint z).length = u2 at *
          generalize (vint z).length = s at *
          generalize unfold_ z = x at *
          have hk0 : (0 : Int) ≤ s := Int.natCast_nonneg s
          have hk1 : (s : Int) ≤ u.length := by omega
          have hk2 : (s : Int) ≤ cap2 := by omega
          have hk3 : ¬ (s : Int) = 0 := by omega
          have hk4 : ((s : Int) == 0) = false := by simpa using (show ¬ s = 0 by omega)
          clear hr2 hbr hbp hba hne hf hrd hbu hul hx ho' ho18 hzl hzp
          by_cases hcap2 : cap2 = s
          · subst hcap2
            rw [if_pos rfl, Nat.sub_self, show u.length - cap2 = 0 by omega] at HT2
            go_wp2_with fail
            refine KR.out.mono ?_
            rintro e w5 ⟨rfl, hf5⟩
            have HB5 := Lib.hid (HBr.out.fr hf5 id)
            have HP5 := Lib.hid (HBp.out.fr hf5 id)
            have HA5 := Lib.hid (HBa.out.fr hf5 id)
            obtain ⟨n5, hn5⟩ := cell_int r HO18.out
            have c5 : w5.cell? ⟨g3, o, none⟩ = some (.int .i64 n5) := by rw [HB5.out.cell]; exact hn5
            have f5 : w5.frozen? ⟨g3, o, none⟩ = false := HB5.out.frozen o
            have HF5 := Lib.hid (HF.out.trans hf5)
            have HU5 := Lib.hid (HT2.out.fr hf5)
            clear hf5 hn5
            go_wp2_with fail
            go_roundw
            case rel =>
              have hW : Fr (fun k => k = g3) w5 (w5.setCell ⟨g3, o, none⟩ (.int .i64 x)) := Fr.setCell (S := fun k => k = g3) (Fr.refl _ _) (fun _ => rfl) _
              have h3 := HS3.out
              have hg2 := HG2.out
              have h4 := HS4.out
              refine ⟨k + 1, setN r o x, u2, by omega, by go_num, HU5.out.frS hW (fun j hj hs => by simp [Value.ownBlock] at hj; omega), ?_, HP5.out.fr hW (by omega), HA5.out.fr hW (by omega), fun j hj => by simp [Value.ownBlock] at hj; omega, HF5.out.then hW (fun k hk hlt => by omega), HE.out, HBU2.out, HUL2.out⟩
              rw [← setN_cells r x HO18.out]
              exact HB5.out.put o _
            case measure => simp [intOf]; omega
          · rw [if_neg hcap2] at HT2
            go_wp2_with fail
            refine KR.out.mono ?_
            rintro e w5 ⟨rfl, hf5⟩
            have HB5 := Lib.hid (HBr.out.fr hf5 id)
            have HP5 := Lib.hid (HBp.out.fr hf5 id)
            have HA5 := Lib.hid (HBa.out.fr hf5 id)
            obtain ⟨n5, hn5⟩ := cell_int r HO18.out
            have c5 : w5.cell? ⟨g3, o, none⟩ = some (.int .i64 n5) := by rw [HB5.out.cell]; exact hn5
            have f5 : w5.frozen? ⟨g3, o, none⟩ = false := HB5.out.frozen o
            have HF5 := Lib.hid (HF.out.trans hf5)
            have HU5 := Lib.hid (HT2.out.fr hf5)
            clear hf5 hn5
            go_wp2_with fail
            go_roundw
            case rel =>
              have hW : Fr (fun k => k = g3) w5 (w5.setCell ⟨g3, o, none⟩ (.int .i64 x)) := Fr.setCell (S := fun k => k = g3) (Fr.refl _ _) (fun _ => rfl) _
              have h3 := HS3.out
              have hg2 := HG2.out
              have h4 := HS4.out
              refine ⟨k + 1, setN r o x, u2, by omega, by go_num, HU5.out.frS hW (fun j hj hs => by simp [Value.ownBlock] at hj; omega), ?_, HP5.out.fr hW (by omega), HA5.out.fr hW (by omega), fun j hj => by simp [Value.ownBlock] at hj; omega, HF5.out.then hW (fun k hk hlt => by omega), HE.out, HBU2.out, HUL2.out⟩
              rw [← setN_cells r x HO18.out]
              exact HB5.out.put o _
            case measure => simp [intOf]; omega
      · obtain rfl : k = n := by omega
        have HE : rd r [] u = R := by
          have := HRD.out
          rwa [List.drop_eq_nil_of_le (by omega)] at this
        by_cases hu : u = []
        · have HR := Lib.hid (show R = .ok r by rw [← HE, rd, if_pos hu])
          subst hu
          obtain ⟨A9, c9, rfl⟩ := hsu.shape
          simp only [List.length_nil] at *
          clear hsu hbr hbp hba hne hf hrd hbu hul HE
          go_wp2_with (first
            | (with_reducible refine wpList_loadQ (dst := some 36) ?_ HBr.out ?_); rfl
            | (with_reducible refine wpList_storeQ (x := .tmp 2) (y := .tmp 36) (q := r) ?_ ?_ HBa.out ?_ ?_); rfl; rfl; rfl; intro w6 hb6 hf6; have HA6 := Lib.hid hb6; have HF6 := Lib.hid (HF.out.then hf6 (fun k hk hlt => by omega)); clear hb6 hf6)
          exact bodyPost_ret (v := qv r) (res_run rfl rfl Try.req_str HA6.out rfl) rfl ⟨by rw [HR.out]; rfl, HF6.out⟩
        · have HR := Lib.hid (show R = .error (2, 8) by rw [← HE, rd, if_neg hu])
          have hpos : (0 : Int) < u.length := by have := List.length_pos_iff.2 hu; omega
          obtain ⟨A9, c9, rfl⟩ := hsu.shape
          clear hsu hbr hbp hba hne hf hrd hbu hul HE hu
          go_wp2_with fail
          refine (KT2.out _).mono ?_
          rintro e w6 ⟨rfl, rfl⟩
          exact ⟨rfl, by rw [HR.out]; rfl, HF.out⟩

theorem decoded_any (b : List Int) (v : Value) (hl : b.length ≤ 100000) (hbt : Bytes b) (hv : Sl EB w v b) : Calls Try.prog 21 #[v] w fun e w' => Ans (dec b) e ∧ Fr Nil w w' := by
  match b, hl, hbt, hv with
  | [], hl, hbt, hv => exact decoded_nil w v hv
  | c :: t, hl, hbt, hv =>
    by_cases hg : GoodQ (kq c)
    · exact decoded_go w c t v hl hbt hg hv
    · exact decoded_kind w c t v (hbt c (by simp)) hg hv
end
end Go.Proofs.Ytdfggjniemncgaa.CodecD
