/- Chapter 10: put, Push, pop, Pop, Top, of a stack. -/
import Derived.Test.YtgibhgppfmbnaaaStackA
namespace Go.Proofs.Ytgibhgppfmbnaaa.StackB
open Go.RowKit Base Slices Quiet StackA TrapA TrapB TrapG
set_option linter.unusedVariables false
set_option linter.unusedSimpArgs false

section
variable (w : World)
theorem Top_none : Calls Try.prog 13 #[.pointer none] w fun e w' => e = .returned (.tuple #[.int .i64 0, .bool false]) ∧ Fr Nil w w' := by
  have H := Lib.hid (fun W => top_none W)
  go_enter Try.func13, Try.ntmps13
  go_wp2_with fail
  refine (H.out _).mono ?_
  rintro e w1 ⟨rfl, hf⟩
  go_wp2_with fail
  exact bodyPost_ret (v := .tuple #[.int .i64 0, .bool false]) (by simp [results, Try.results13, go_sem]) rfl ⟨rfl, hf⟩
theorem Top_of {p : Value} {x : Int} {b : Bool} (h : ∀ W, Fr Nil w W → Calls Try.prog 24 #[p] W fun e w' => e = .returned (.tuple #[.int .i64 x, .bool b]) ∧ Fr Nil W w') :
    Calls Try.prog 13 #[p] w fun e w' => e = .returned (.tuple #[.int .i64 x, .bool b]) ∧ Fr Nil w w' := by
  have H := Lib.hid (h w (Fr.refl _ _))
  clear h
  go_enter Try.func13, Try.ntmps13
  go_wp2_with fail
  refine H.out.mono ?_
  rintro e w1 ⟨rfl, hf⟩
  go_wp2_with fail
  exact bodyPost_ret (v := .tuple #[.int .i64 x, .bool b]) (by simp [results, Try.results13, go_sem]) rfl ⟨rfl, hf⟩
theorem pop_false {p : Value} (h : Calls Try.prog 24 #[p] w fun e w' => e = .returned (.tuple #[.int .i64 0, .bool false]) ∧ Fr Nil w w') :
    Calls Try.prog 19 #[p] w fun e w' => e = .returned (.tuple #[.int .i64 0, .bool false]) ∧ Fr Nil w w' := by
  have H := Lib.hid h
  clear h
  go_enter Try.func19, Try.ntmps19
  go_wp2_with fail
  refine H.out.mono ?_
  rintro e w1 ⟨rfl, hf⟩
  go_wp2_with fail
  exact bodyPost_ret (v := .tuple #[.int .i64 0, .bool false]) (by simp [results, Try.results19, go_sem]) rfl ⟨rfl, hf⟩

/-- what pop leaves of a slice -/
def cut (v : Value) : Value := match v with | .slice A n c => .slice A (n - 1) c | v => v

set_option maxHeartbeats 4000000 in
theorem pop_snoc {g : Nat} {v : Value} {l : List Int} {x : Int} {most : Nat} (h : Stk w g v (l ++ [x]) most) (hl : l.length ≤ 1000000) :
    Calls Try.prog 19 #[.pointer (some ⟨g, 0, none⟩)] w fun e w' => e = .returned (.tuple #[.int .i64 x, .bool true]) ∧ Fr (fun k => k = g) w w' ∧ Stk w' g (cut v) l most := by
  have ht := top_snoc w h hl
  rcases h.2.shape with ⟨_, h0⟩ | ⟨b, cap, rfl, hc, hm, _, hb⟩
  · simp at h0
  · have hlen : (l ++ [x]).length = l.length + 1 := by simp
    have ho := h.2.take EI_ok (l.length) (by simp)
    rw [List.take_left] at ho
    have hB := h.1
    have hap : b ≠ g := h.apart rfl
    rw [hlen] at hc hB
    rw [show cut (.slice (some ⟨b, 0, none⟩) (l ++ [x]).length cap) = .slice (some ⟨b, 0, none⟩) l.length cap by simp [cut]]
    have HO := Lib.hid ho
    have H := Lib.hid ht
    clear ht ho h hlen
    have hcap : (l.length : Int) ≤ cap := by omega
    unfold maxLen at hm
    generalize hn : l.length = n at *
    have HN := Lib.hid hn
    clear hn
    go_enter Try.func19, Try.ntmps19
    go_wp2_with fail
    refine H.out.mono ?_
    rintro e w1 ⟨rfl, hf⟩
    have hB1 := hB.fr hf id
    obtain ⟨c0, c1, f0, f1⟩ := hB1.c2
    go_wp2_with fail
    go_region
    all_goals
      go_wp2_with fail
      have hfr : Fr (fun k => k = g) w ((w1.setCell ⟨g, 0, none⟩ (.slice (some ⟨b, 0, none⟩) n cap)).drew) := (Fr.setCell (S := fun k => k = g) (p := ⟨g, 0, none⟩) hf.of_nil (fun _ => rfl) _).drew
      exact bodyPost_ret (v := .tuple #[.int .i64 x, .bool true]) (by simp [results, Try.results19, go_sem]) rfl ⟨rfl, hfr, (hB1.put 0 _).drew, HO.out.fr hfr (fun k hk hs => hap (by simp [Value.ownBlock] at hk; rw [hk]; exact hs))⟩

theorem Pop_of {p : Value} {x : Int} {b : Bool} {R : World → Prop} (h : Calls Try.prog 19 #[p] w fun e w' => e = .returned (.tuple #[.int .i64 x, .bool b]) ∧ R w') :
    Calls Try.prog 9 #[p] w fun e w' => e = .returned (.tuple #[.int .i64 x, .bool b]) ∧ R w' := by
  have H := Lib.hid h
  clear h
  go_enter Try.func9, Try.ntmps9
  go_wp2_with fail
  refine H.out.mono ?_
  rintro e w1 ⟨rfl, hf⟩
  have HF := Lib.hid hf
  clear hf
  go_wp2_with fail
  exact bodyPost_ret (v := .tuple #[.int .i64 x, .bool b]) (by simp [results, Try.results9, go_sem]) rfl ⟨rfl, HF.out⟩
end
/-- an append to a stack's slice and what it leaves -/
def Put (w : World) (g : Nat) (v : Value) (l : List Int) (most : Nat) (w' : World) : Prop := ∃ v', Stk w' g v' l most ∧ Moved w v v'

section
variable (w : World)
set_option maxHeartbeats 4000000 in
theorem put_fits {g : Nat} {v y : Value} {l m : List Int} {most : Nat} (h : Stk w g v l most) (hy : Come EI w y m) (hl : l.length + m.length ≤ most) (hm : most ≤ 65536) :
    Calls Try.prog 23 #[.pointer (some ⟨g, 0, none⟩), y] w fun e w' => e = .returned (.tuple #[]) ∧ Fr (Foot g v) w w' ∧ Put w g v (l ++ m) most w' := by
  obtain ⟨c0, c1, f0, f1⟩ := h.1.c2
  have hB := h.1
  have hO := h.2
  have hap := fun k hk => h.apart (k := k) hk
  obtain ⟨A, c, hv⟩ := (h.2.sl EI_ok).shape
  obtain ⟨A', c', hy'⟩ := hy.shape
  have hb1 : (m.length : Int) ≤ most - l.length := by omega
  have hb2 : (0 : Int) ≤ most - l.length := by omega
  have HB := Lib.hid hB
  have HO := Lib.hid hO
  have HY := Lib.hid hy
  have HA := Lib.hid hap
  have HL := Lib.hid (show l.length + m.length ≤ 1000000 by omega)
  have hmm : (most : Int) ≤ 65536 := by omega
  have hll : (l.length : Int) ≤ most := by omega
  have hg := hB.lt
  clear hB hO hap hy h hl hm
  subst hv
  subst hy'
  go_enter Try.func23, Try.ntmps23
  go_wp2_with fail
  go_quiet (fail)
  go_wp2_with (at_builtin; refine wpList_app EI_ok rfl (.tmp 27) (.tmp 28) 28 rfl rfl 0 (.slice A l.length c) (.slice A' m.length c') l m rfl (HO.out.fr ((Fr.refl Nil w).drewN _) (fun _ _ s => s)) rfl (HY.out.fr ((Fr.refl Nil w).drewN _)) HL.out (Nat.zero_le _) ?_; intro v' w1 o1 o2 o3 o4; obtain ⟨A2, c2, rfl⟩ := (o1.sl EI_ok).shape; have hB1 := Bk.fr (HB.out.drewN _) o2 (fun s => HA.out _ s rfl); obtain ⟨k0, k1, e0, e1⟩ := hB1.c2)
  rw [List.length_append] at o1 o3
  have hne : ∀ k, (Value.slice A2 (l.length + m.length) c2).ownBlock = some k → k ≠ g := fun k hk => by
    rcases o3 k hk with h1 | h1
    · exact HA.out k h1
    · have : w.heap.size ≤ k := h1
      omega
  have hf1 : Fr (Foot g (.slice A l.length c)) w w1 := ((Fr.refl _ w).drewN nq).trans (o2.mono fun k hk _ => Or.inr hk)
  go_end0
  exact ⟨rfl, Fr.setCell (p := ⟨g, 0, none⟩) hf1 (fun _ => Or.inl rfl) _, _, ⟨hB1.put 0 _, o1.fr (S := fun k => k = g) (Fr.setCell (p := ⟨g, 0, none⟩) (Fr.refl (fun k => k = g) _) (fun _ => rfl) _) hne⟩, o3⟩
set_option maxHeartbeats 4000000 in
theorem put_full {g : Nat} {v y : Value} {l m : List Int} {most : Nat} (h : Stk w g v l most) (hy : Come EI w y m) (hl : most < l.length + m.length) (hll : l.length ≤ most) (hm : most ≤ 65536) :
    Calls Try.prog 23 #[.pointer (some ⟨g, 0, none⟩), y] w fun e w' => e = .panicked [fault l.length 4] ∧ Fr Nil w w' := by
  obtain ⟨c0, c1, f0, f1⟩ := h.1.c2
  obtain ⟨A, c, hv⟩ := (h.2.sl EI_ok).shape
  obtain ⟨A', c', hy'⟩ := hy.shape
  have hb1 : (most : Int) - l.length < m.length := by omega
  have hb2 : (0 : Int) ≤ most - l.length := by omega
  have hmm : (most : Int) ≤ 65536 := by omega
  clear h hl hm hy hll
  subst hv
  subst hy'
  have H := Lib.hid (fun W => Throw_bad l.length 4 (by decide) W)
  go_enter Try.func23, Try.ntmps23
  go_wp2_with fail
  go_quiet (fail)
  go_wp2_with fail
  refine (H.out _).mono ?_
  rintro e w1 ⟨rfl, rfl⟩
  exact ⟨rfl, rfl, by (repeat' (with_reducible first | refine Fr.setCell ?_ (fun hlt => absurd hlt (by dsimp only; omega)) _ | refine Fr.alloc ?_ _ | refine Fr.drewN ?_ _ | refine Fr.drew ?_ | exact Fr.refl _ _))⟩
theorem push1_fits {a b g : Nat} {v y : Value} {l m : List Int} {most : Nat} (ha : Bk w a 23 #[.pointer (some ⟨g, 0, none⟩)]) (hb : Bk w b 28 #[y]) (h : Stk w g v l most) (hy : Come EI w y m) (hl : l.length + m.length ≤ most) (hm : most ≤ 65536) :
    Calls Try.prog 22 #[.pointer (some ⟨a, 0, none⟩), .pointer (some ⟨b, 0, none⟩)] w fun e w' => e = .returned (.tuple #[]) ∧ Fr (Foot g v) w w' ∧ Put w g v (l ++ m) most w' := by
  have H := Lib.hid (put_fits w h hy hl hm)
  obtain ⟨a0, _⟩ := ha.c1
  obtain ⟨b0, _⟩ := hb.c1
  obtain ⟨A', c', rfl⟩ := hy.shape
  clear h hy hl hm ha hb
  go_enter Try.func22, Try.ntmps22
  go_wp2_with fail
  refine H.out.mono ?_
  rintro e w1 ⟨rfl, hf, hq⟩
  have HF := Lib.hid hf
  have HQ := Lib.hid hq
  clear hf hq
  go_wp2_with fail
  go_end0
  exact ⟨rfl, HF.out, HQ.out⟩
theorem push1_full {a b g : Nat} {v y : Value} {l m : List Int} {most : Nat} (ha : Bk w a 23 #[.pointer (some ⟨g, 0, none⟩)]) (hb : Bk w b 28 #[y]) (h : Stk w g v l most) (hy : Come EI w y m) (hl : most < l.length + m.length) (hll : l.length ≤ most) (hm : most ≤ 65536) :
    Calls Try.prog 22 #[.pointer (some ⟨a, 0, none⟩), .pointer (some ⟨b, 0, none⟩)] w fun e w' => e = .panicked [fault l.length 4] ∧ Fr Nil w w' := by
  have H := Lib.hid (put_full w h hy hl hll hm)
  obtain ⟨a0, _⟩ := ha.c1
  obtain ⟨b0, _⟩ := hb.c1
  obtain ⟨A', c', rfl⟩ := hy.shape
  clear h hy hl hm ha hb hll
  go_enter Try.func22, Try.ntmps22
  go_wp2_with fail
  refine H.out.mono ?_
  rintro e w1 ⟨rfl, hf⟩
  exact ⟨rfl, rfl, hf⟩

theorem Put.nil {w w' w'' : World} {g : Nat} {v : Value} {l : List Int} {most : Nat} (h : Put w g v l most w') (hf : Fr Nil w' w'') : Put w g v l most w'' := by
  obtain ⟨v', h1, h2⟩ := h
  exact ⟨v', h1.nil hf, h2⟩
theorem Put.since {w w0 w' : World} {g : Nat} {v : Value} {l : List Int} {most : Nat} (h : Put w0 g v l most w') (hf : w.heap.size ≤ w0.heap.size) : Put w g v l most w' := by
  obtain ⟨v', h1, h2⟩ := h
  exact ⟨v', h1, fun k hk => (h2 k hk).imp id fun e => Nat.le_trans hf e⟩
theorem Put.left {w w' : World} {g : Nat} {v : Value} {l : List Int} {most : Nat} {S : Nat → Prop} (hS : ∀ k, Foot g v k → k < w.heap.size) (h : TrapG.Left w S (fun W w1 => Put W g v l most w1) w') : Put w g v l most w' := by
  obtain ⟨W, w1, h1, h2, ⟨v', h3, h4⟩, h5⟩ := h
  refine ⟨v', h3.fr h5 ?_, fun k hk => (h4 k hk).imp id fun e => Nat.le_trans h1.size e⟩
  rintro k (rfl | hk) ⟨s1, s2⟩
  · have := hS k (Or.inl rfl)
    omega
  · rcases h4 k hk with e | e
    · have := hS k (Or.inr e)
      omega
    · omega

theorem enters1 : Enters 22 := fun _ _ => by simp [go_sem]

theorem Push_none {y : Value} (hy : ∃ A n c, y = .slice A n c) : Calls Try.prog 12 #[.pointer none, y] w fun e w' => e = .returned (.int .i64 1) ∧ Fr Nil w w' := by
  obtain ⟨A, n, c, rfl⟩ := hy
  go_enter Try.func12, Try.ntmps12
  go_wp2_with fail
  exact bodyPost_ret (v := .int .i64 1) (by simp [results, Try.results12, go_sem]) rfl ⟨rfl, by (repeat' (with_reducible first | refine Fr.setCell ?_ (fun hlt => absurd hlt (by dsimp only; omega)) _ | refine Fr.alloc ?_ _ | refine Fr.drewN ?_ _ | refine Fr.drew ?_ | exact Fr.refl _ _))⟩

set_option maxHeartbeats 2000000 in
theorem Push_fits {g : Nat} {v y : Value} {l m : List Int} {most : Nat} (h : Stk w g v l most) (hy : Come EI w y m) (hl : l.length + m.length ≤ most) (hm : most ≤ 65536) :
    Calls Try.prog 12 #[.pointer (some ⟨g, 0, none⟩), y] w fun e w' => e = .returned (.int .i64 0) ∧ Fr (Foot g v) w w' ∧ Put w g v (l ++ m) most w' := by
  obtain ⟨A', c', hye⟩ := hy.shape
  have hRun : ∀ W, Fr Nil ((w.alloc (.cells #[.pointer (some ⟨g, 0, none⟩)] 23)).alloc (.cells #[y] 28)) W → Calls Try.prog 22 #[.pointer (some ⟨w.heap.size, 0, none⟩), .pointer (some ⟨w.heap.size + 1, 0, none⟩)] W fun e w' => e = .returned (.tuple #[]) ∧ Fr (Foot g v) W w' ∧ Put W g v (l ++ m) most w' := fun W hW => by
    have h0 : Fr Nil w W := Fr.trans (by (repeat' (with_reducible first | refine Fr.setCell ?_ (fun hlt => absurd hlt (by dsimp only; omega)) _ | refine Fr.alloc ?_ _ | refine Fr.drewN ?_ _ | refine Fr.drew ?_ | exact Fr.refl _ _))) hW
    exact push1_fits W (Bk.fr (S := Nil) (by (repeat' (first | ((with_reducible refine new' ?_); simp; done) | with_reducible refine Bk.alloc ?_ _ | with_reducible refine Bk.far ?_ (by dsimp only; omega) _ | with_reducible refine Bk.drewN ?_ _ | with_reducible refine Bk.drew ?_))) hW id) (Bk.fr (S := Nil) (by (repeat' (first | ((with_reducible refine new' ?_); simp; done) | with_reducible refine Bk.alloc ?_ _ | with_reducible refine Bk.far ?_ (by dsimp only; omega) _ | with_reducible refine Bk.drewN ?_ _ | with_reducible refine Bk.drew ?_))) hW id) (h.nil h0) (hy.fr h0) hl hm
  have HC := Lib.hid (CatchG_ret (F := 22) (first := #[]) (cap := #[.pointer (some ⟨w.heap.size, 0, none⟩), .pointer (some ⟨w.heap.size + 1, 0, none⟩)]) (w := (w.alloc (.cells #[.pointer (some ⟨g, 0, none⟩)] 23)).alloc (.cells #[y] 28)) (S := Foot g v) (Q := fun W w' => Put W g v (l ++ m) most w') (fun k hk => by have := h.lt k hk; simp; omega) enters1 (by unfold RunsG; simpa using hRun))
  have hlt := Lib.hid h.lt
  clear hRun h hy hl hm
  subst hye
  go_enter Try.func12, Try.ntmps12
  go_wp2_with fail
  refine HC.out.mono ?_
  rintro e w1 ⟨rfl, hf, hL⟩
  have hP := Put.left (fun k hk => by have := hlt.out k hk; simp; omega) hL
  have HP := Lib.hid (hP.since (w := w) (by simp; omega))
  have g1 : Fr (Foot g v) w w1 := Fr.trans (by (repeat' (with_reducible first | refine Fr.setCell ?_ (fun hlt => absurd hlt (by dsimp only; omega)) _ | refine Fr.alloc ?_ _ | refine Fr.drewN ?_ _ | refine Fr.drew ?_ | exact Fr.refl _ _))) hf
  clear hL hP hf
  go_wp2_with fail
  exact bodyPost_ret (v := .int .i64 0) (by simp [results, Try.results12, go_sem]) rfl ⟨rfl, by (repeat' (with_reducible first | exact g1 | refine Fr.setCell ?_ (fun hlt => absurd hlt (by dsimp only; omega)) _ | refine Fr.alloc ?_ _ | refine Fr.drewN ?_ _ | refine Fr.drew ?_)), HP.out.nil (by (repeat' (with_reducible first | refine Fr.setCell ?_ (fun hlt => absurd hlt (by dsimp only; omega)) _ | refine Fr.alloc ?_ _ | refine Fr.drewN ?_ _ | refine Fr.drew ?_ | exact Fr.refl _ _)))⟩
set_option maxHeartbeats 2000000 in
theorem Push_full {g : Nat} {v y : Value} {l m : List Int} {most : Nat} (h : Stk w g v l most) (hy : Come EI w y m) (hl : most < l.length + m.length) (hll : l.length ≤ most) (hm : most ≤ 65536) :
    Calls Try.prog 12 #[.pointer (some ⟨g, 0, none⟩), y] w fun e w' => e = .returned (.int .i64 4) ∧ Fr Nil w w' := by
  obtain ⟨A', c', hye⟩ := hy.shape
  have hRun : ∀ W, Fr Nil ((w.alloc (.cells #[.pointer (some ⟨g, 0, none⟩)] 23)).alloc (.cells #[y] 28)) W → Calls Try.prog 22 #[.pointer (some ⟨w.heap.size, 0, none⟩), .pointer (some ⟨w.heap.size + 1, 0, none⟩)] W fun e w' => e = .panicked [fault l.length 4] ∧ Fr Nil W w' ∧ True := fun W hW => by
    have h0 : Fr Nil w W := Fr.trans (by (repeat' (with_reducible first | refine Fr.setCell ?_ (fun hlt => absurd hlt (by dsimp only; omega)) _ | refine Fr.alloc ?_ _ | refine Fr.drewN ?_ _ | refine Fr.drew ?_ | exact Fr.refl _ _))) hW
    exact (push1_full W (Bk.fr (S := Nil) (by (repeat' (first | ((with_reducible refine new' ?_); simp; done) | with_reducible refine Bk.alloc ?_ _ | with_reducible refine Bk.far ?_ (by dsimp only; omega) _ | with_reducible refine Bk.drewN ?_ _ | with_reducible refine Bk.drew ?_))) hW id) (Bk.fr (S := Nil) (by (repeat' (first | ((with_reducible refine new' ?_); simp; done) | with_reducible refine Bk.alloc ?_ _ | with_reducible refine Bk.far ?_ (by dsimp only; omega) _ | with_reducible refine Bk.drewN ?_ _ | with_reducible refine Bk.drew ?_))) hW id) (h.nil h0) (hy.fr h0) hl hll hm).mono fun _ _ ⟨e1, e2⟩ => ⟨e1, e2, trivial⟩
  have HC := Lib.hid (CatchG_fault (x := l.length) (c := 4) (F := 22) (first := #[]) (cap := #[.pointer (some ⟨w.heap.size, 0, none⟩), .pointer (some ⟨w.heap.size + 1, 0, none⟩)]) (w := (w.alloc (.cells #[.pointer (some ⟨g, 0, none⟩)] 23)).alloc (.cells #[y] 28)) (S := Nil) (Q := fun W w' => True) (fun k hk => hk.elim) enters1 (by unfold RunsG; simpa using hRun))
  clear hRun h hy hl hm hll
  subst hye
  go_enter Try.func12, Try.ntmps12
  go_wp2_with fail
  refine HC.out.mono ?_
  rintro e w1 ⟨rfl, hf, hL⟩
  have g1 : Fr Nil w w1 := Fr.trans (by (repeat' (with_reducible first | refine Fr.setCell ?_ (fun hlt => absurd hlt (by dsimp only; omega)) _ | refine Fr.alloc ?_ _ | refine Fr.drewN ?_ _ | refine Fr.drew ?_ | exact Fr.refl _ _))) hf
  clear hL hf
  go_wp2_with fail
  exact bodyPost_ret (v := .int .i64 4) (by simp [results, Try.results12, go_sem]) rfl ⟨rfl, by (repeat' (with_reducible first | exact g1 | refine Fr.setCell ?_ (fun hlt => absurd hlt (by dsimp only; omega)) _ | refine Fr.alloc ?_ _ | refine Fr.drewN ?_ _ | refine Fr.drew ?_))⟩
end
end Go.Proofs.Ytgibhgppfmbnaaa.StackB
