/- Chapter 8: the walk of middles, with any comparison. -/
import Derived.RangeFuncBox
import Derived.IntWalk
import Derived.Test.YtokgeegbeagblaaGenF
import Derived.Test.YtokgeegbeagblaaGenR
namespace Go.Proofs.Ytokgeegbeagblaa.GenG
open Go.RowKit Go.Shelf Base SortA SortB SortD SortI SortK GenA GenC GenD GenF GenR
set_option linter.unusedVariables false
set_option linter.unusedSimpArgs false
attribute [local go_sem] Oper.semAt_some

/-- chunk j of a list, and its middle -/
def chn (l : List Pr) (j : Nat) : List Pr := (l.drop (5 * j)).take 5
def md (l : List Pr) (j : Nat) : Pr := (isort (chn l j))[(chn l j).length / 2]?.getD (0, 0)
def mids (l : List Pr) : List Pr := (List.range (nch l.length)).map (md l)
theorem chn_len (l : List Pr) (j : Nat) : (chn l j).length = min 5 (l.length - 5 * j) := by simp [chn]
theorem chn_pos {l : List Pr} {j : Nat} (h : j < nch l.length) : 0 < (chn l j).length := by rw [chn_len]; unfold nch at h; omega
theorem md_some {l : List Pr} {j : Nat} (h : j < nch l.length) : (isort (chn l j))[(chn l j).length / 2]? = some (md l j) := by
  have := chn_pos h
  unfold md
  rw [List.getElem?_eq_getElem (by rw [isort_len]; omega)]
  rfl

theorem sc_chn (l : List Pr) (j : Nat) : sc (chn l j).length ≤ 10 := by
  have h5 : (chn l j).length ≤ 5 := by rw [chn_len]; omega
  rw [sc_small (by omega)]
  have h := tri_le h5
  have e5 : tri 5 = 10 := rfl
  omega
theorem keeps_fr {S : Nat → Prop} {W W' : World} (hf : Fr S W W') (hS : ∀ k, S k → ∃ cs t, W.heap[k]? = some (.cells cs t (0, 0))) : KeepsOthers W W' :=
  ⟨hf.size, fun k o hk ho => (hf.block k (Array.getElem?_eq_some_iff.1 hk).1 (fun s => by
    obtain ⟨cs, t, h⟩ := hS k s
    rw [h] at hk
    cases hk
    cases ho)).trans hk⟩
theorem KpS.fr {S T : Nat → Prop} {n₀ : Nat} {A B : World} (h : Fr T A B) (hn : n₀ ≤ A.heap.size) (hT : ∀ k, k < n₀ → T k → S k) : KpS S n₀ A B := fun i hi hs => h.block i (by omega) (fun t => hs (hT i hi t))
theorem own_cells {W : World} {base : Nat} {v : Value} {l : List Pr} (h : SortD.Own W base v l) : ∀ k, Of v k → ∃ cs t, W.heap[k]? = some (.cells cs t (0, 0)) := fun k hk => by
  unfold SortD.Own at h
  rcases h.2 with ⟨rfl, _⟩ | ⟨g, cap, cur, rfl, _, hgb, _⟩
  · cases hk
  · cases hk
    exact ⟨_, _, hgb⟩
theorem fr_own {S : Nat → Prop} {w : World} {B : Nat} (hB : w.heap.size ≤ B) {β : Type} : OwnFrom B (fun (_ : β) W => Fr S w W) :=
  fun s W W' row hs hg hr => hs.then (Fr.of_grown (S := fun k => row = some k) hg (fun g hg _ => hg)) (fun i hi hlt => absurd hlt (by have := (hr i hi).1; omega))
theorem cnt_own {F : FuncId} {first : Array Value} {S : Nat → Prop} {J : Nat → World → Prop} (L : Ls F first S J) {n : Nat} {B : Nat} (hB : ∀ k, S k → k < B) {β : Type} (f : β → Nat) : OwnFrom B (fun (s : β) W => Cnt J n (f s) W) :=
  fun s W W' row hs hg hr => hs.keep L (Fr.of_grown (S := fun k => row = some k) hg (fun g hg _ => hg)) (fun i hi hS => by have := hB i hS; have := (hr i hi).1; omega)

section
variable {F : FuncId} {first : Array Value} {S : Nat → Prop} {J : Nat → World → Prop}
set_option maxHeartbeats 1000000 in
theorem chunk_in (n : Nat) (A : Option Addr) (len cap : Nat) (w : World) :
    CallsIn Fence.wide n Try.prog 32 #[.slice A len cap, .int .i64 5] w fun e w' => e = .returned (.func (.func 34) #[] #[.pointer (some ⟨w.heap.size, 0, none⟩), .pointer (some ⟨w.heap.size + 1, 0, none⟩)]) ∧ w' = (w.alloc (.cells #[.slice A len cap] 22)).alloc (.cells #[.int .i64 5] 3) := by
  refine callsIn_of_wp Try.func32 rfl trivial ?_ rfl
  simp only [Try.ntmps32, List.size_toArray, List.length_cons, List.length_nil, Nat.reduceAdd, Nat.reduceSub, Array.replicate_succ, Array.replicate_zero, List.push_toArray, List.append_toArray, List.nil_append, List.cons_append]
  gi_wp2
  go_ret
  exact ⟨rfl, rfl⟩

theorem chunk_stops (n : Nat) (hn : 1 ≤ n) (S : Nat → Prop) (Bs Bn n₀ b off len cap : Nat) (hlen : len ≤ 1000) (hcap : len ≤ cap) (hBs : Bs < n₀) (hBn : Bn < n₀) (hSs : ¬ S Bs) (hSn : ¬ S Bn) (w : World) (hnw : n₀ ≤ w.heap.size)
    (h1 : w.cell? ⟨Bs, 0, none⟩ = some (.slice (some ⟨b, off, none⟩) len cap)) (h2 : w.cell? ⟨Bn, 0, none⟩ = some (.int .i64 5)) :
    SeqStopsK Fence.wide n Try.prog 34 #[.pointer (some ⟨Bs, 0, none⟩), .pointer (some ⟨Bn, 0, none⟩)] (fun x : Ch len => #[chV b off len x.1]) (KpS S n₀) (Upto (nch len)) (fun _ => True) (nch len) w := fun l J Jx W hW hJ _ hY h0 =>
  chunk1_in n hn S l Bs Bn n₀ b off len cap hlen hcap hBs hBn hSs hSn J Jx hY W hJ ((hW.cell (p := ⟨Bs, 0, none⟩) (by show Bs < _; omega)).trans h1) ((hW.cell (p := ⟨Bn, 0, none⟩) (by show Bn < _; omega)).trans h2) h0

/-- what the own cells hold between two rounds -/
def Mid (F : FuncId) (first : Array Value) (S : Nat → Prop) (J : Nat → World → Prop) (w : World) (n kk : Nat) (l : List Pr) (pre : List (Ch l.length)) (W : World) : Prop :=
  (∃ v, Boxed W (w.heap.size + 1) 22 v ∧ W.ownsRow (w.heap.size + 4) 28 2 v pre.length (flat (pre.map fun x => md l x.1)) ∧ True) ∧ Boxed W w.heap.size 31 (.func (.func F) first #[]) ∧ Fr S w W ∧ Cnt J n (kk + 10 * pre.length) W ∧ w.heap.size + 4 ≤ W.heap.size
theorem mid_own (L : Ls F first S J) (w : World) (n kk : Nat) (l : List Pr) {B : Nat} (hB : w.heap.size ≤ B) (hS : ∀ k, S k → k < w.heap.size) : OwnFrom B (Mid F first S J w n kk l) :=
  OwnFrom.and (Own.from (holdsRow_own (w.heap.size + 4) (w.heap.size + 1) 22 28 2 (fun pre : List (Ch l.length) => pre.length) (fun pre => flat (pre.map fun x => md l x.1)) (fun _ _ => True)) _)
    (OwnFrom.and (Own.from (boxed_own _ _ _) _) (OwnFrom.and (fr_own hB) (OwnFrom.and (cnt_own L (fun k hk => Nat.lt_of_lt_of_le (hS k hk) hB) (fun pre : List (Ch l.length) => kk + 10 * pre.length)) (fun _ _ _ _ hs hg _ => Nat.le_trans hs hg.size))))

set_option maxRecDepth 100000 in
set_option maxHeartbeats 4000000 in
theorem middles_any (L : Ls F first S J) (n kk : Nat) (l : List Pr) (g o cap : Nat) (w : World) (hl0 : 0 < l.length) (hl : l.length ≤ 200) (hn : n + kk ≤ 50000) (hc : l.length ≤ cap) (ha : g < w.heap.size) (hr : Row w g o l) (hgS : ¬ S g) (hJ : Cnt J n kk w) :
    Calls Try.prog 29 #[.slice (some ⟨g, o, none⟩) l.length cap, lessG F first] w fun e w' => ∃ u, e = .returned u ∧ Fr S w w' ∧ SortD.Own w' w.heap.size u (mids l) ∧ Cnt J n (kk + 10 * nch l.length) w' := by
  unfold lessG
  have hNS : ∀ i, w.heap.size ≤ i → ¬ S i := fun i hi => hJ.new L hi
  have hSlt : ∀ k, S k → k < w.heap.size := fun k hk => hJ.lt L hk
  refine (callsIn_wide (n := 10)).1 ?_
  refine callsIn_of_wp_marks Try.func29 rfl trivial ?_ rfl
  simp only [Try.ntmps29, List.size_toArray, List.length_cons, List.length_nil, Nat.reduceAdd, Nat.reduceSub, Array.replicate_succ, Array.replicate_zero, List.push_toArray, List.append_toArray, List.nil_append, List.cons_append]
  gi_wp2_with (refine ⟨trivial, ?_⟩; gi_at_call 32; refine (chunk_in _ _ _ _ _).mono ?_; rintro e w' ⟨rfl, rfl⟩)
  have f4 : Fr Nil w ((((w.alloc (.cells #[.func (.func F) first #[]] 31)).alloc (.cells #[.slice none 0 0] 22)).alloc (.cells #[.slice (some ⟨g, o, none⟩) l.length cap] 22)).alloc (.cells #[.int .i64 5] 3)) := by (repeat' (with_reducible first | refine Fr.setCell ?_ (fun hlt => absurd hlt (by dsimp only; omega)) _ | refine Fr.alloc ?_ _ | refine Fr.drewN ?_ _ | refine Fr.drew ?_ | exact Fr.refl _ _))
  have z4 : w.heap.size + 4 = ((((w.alloc (.cells #[.func (.func F) first #[]] 31)).alloc (.cells #[.slice none 0 0] 22)).alloc (.cells #[.slice (some ⟨g, o, none⟩) l.length cap] 22)).alloc (.cells #[.int .i64 5] 3)).heap.size := by simp
  have bL : Boxed ((((w.alloc (.cells #[.func (.func F) first #[]] 31)).alloc (.cells #[.slice none 0 0] 22)).alloc (.cells #[.slice (some ⟨g, o, none⟩) l.length cap] 22)).alloc (.cells #[.int .i64 5] 3)) w.heap.size 31 (.func (.func F) first #[]) := (((Boxed.new w _ _).alloc _).alloc _).alloc _
  have bO : Boxed ((((w.alloc (.cells #[.func (.func F) first #[]] 31)).alloc (.cells #[.slice none 0 0] 22)).alloc (.cells #[.slice (some ⟨g, o, none⟩) l.length cap] 22)).alloc (.cells #[.int .i64 5] 3)) (w.heap.size + 1) 22 (.slice none 0 0) := by
    have h := Boxed.new (w.alloc (.cells #[.func (.func F) first #[]] 31)) 22 (.slice none 0 0)
    rw [World.size_alloc] at h
    exact (h.alloc _).alloc _
  have bS : Boxed ((((w.alloc (.cells #[.func (.func F) first #[]] 31)).alloc (.cells #[.slice none 0 0] 22)).alloc (.cells #[.slice (some ⟨g, o, none⟩) l.length cap] 22)).alloc (.cells #[.int .i64 5] 3)) (w.heap.size + 2) 22 (.slice (some ⟨g, o, none⟩) l.length cap) := by
    have h := Boxed.new ((w.alloc (.cells #[.func (.func F) first #[]] 31)).alloc (.cells #[.slice none 0 0] 22)) 22 (.slice (some ⟨g, o, none⟩) l.length cap)
    rw [World.size_alloc, World.size_alloc] at h
    exact h.alloc _
  have bN : Boxed ((((w.alloc (.cells #[.func (.func F) first #[]] 31)).alloc (.cells #[.slice none 0 0] 22)).alloc (.cells #[.slice (some ⟨g, o, none⟩) l.length cap] 22)).alloc (.cells #[.int .i64 5] 3)) (w.heap.size + 3) 3 (.int .i64 5) := by
    have h := Boxed.new (((w.alloc (.cells #[.func (.func F) first #[]] 31)).alloc (.cells #[.slice none 0 0] 22)).alloc (.cells #[.slice (some ⟨g, o, none⟩) l.length cap] 22)) 3 (.int .i64 5)
    rw [World.size_alloc, World.size_alloc, World.size_alloc] at h
    exact h
  have c4 := hJ.nil L f4
  generalize ((((w.alloc (.cells #[.func (.func F) first #[]] 31)).alloc (.cells #[.slice none 0 0] 22)).alloc (.cells #[.slice (some ⟨g, o, none⟩) l.length cap] 22)).alloc (.cells #[.int .i64 5] 3)) = w4 at f4 z4 bL bO bS bN c4 ⊢
  refine wpIn_rangeFunc_ownF rfl (by omega) (gf := 34) (lb := #[.pointer (some ⟨w.heap.size + 2, 0, none⟩), .pointer (some ⟨w.heap.size + 3, 0, none⟩)]) rfl trivial (enters_of Try.func34 (by kernel_rfl) rfl)
    (chunk_stops _ (by omega) (fun k => S k ∨ k = w.heap.size + 1) (w.heap.size + 2) (w.heap.size + 3) (w.heap.size + 4) g o l.length cap (by omega) hc (by omega) (by omega) (fun s => s.elim (hNS _ (by omega)) (by omega)) (fun s => s.elim (hNS _ (by omega)) (by omega)) w4 (by omega) bS.cell bN.cell)
    (fun h k => KpS.trans h k) (fun W k o1 o2 hk _ _ _ => fun i hi _ => World.putObj_heap_other (by omega)) (Below.refl _ _) (fun _ => rfl)
    (Mid F first S J w n kk l) (fun _ _ _ => False) (mid_own L w n kk l (by omega) hSlt) (fun _ _ _ _ _ hs _ _ => hs)
    ⟨⟨_, bO, World.ownsRow_nil _ _ _ _, trivial⟩, bL, f4.of_nil, c4.le (by omega), by omega⟩
    (fun x => { tmps := #[.slice (some ⟨g, o, none⟩) l.length cap, .func (.func F) first #[], undef, .pointer (some ⟨w.heap.size, 0, none⟩), .slice none 0 0, .pointer (some ⟨w.heap.size + 1, 0, none⟩), chV g o l.length x.1, undef, .slice (some ⟨g, o, none⟩) l.length cap, .func (.func 34) #[] #[.pointer (some ⟨w.heap.size + 2, 0, none⟩), .pointer (some ⟨w.heap.size + 3, 0, none⟩)], chV g o l.length x.1, undef, undef, undef, undef, undef, undef, undef, undef, undef, undef, undef, undef, undef], defers := [] }) ?assign ?body ?done ?stop
  case assign =>
    intro l x W K hK
    gi_wp2
    exact hK
  case body =>
    rintro l1 pre x W ⟨⟨v, hv, hrow, _⟩, hbl, hfW, hcW, hzW⟩ hlt
    have hcL := hbl.cell
    obtain ⟨j, hj⟩ := x
    have hb5 : n + (kk + 10 * pre.length) + sc (chn l j).length ≤ 100000 := by have := sc_chn l j; unfold nch at hlt; omega
    have HS := Lib.hid (fun W' h1 h2 => sort_any L n (chn l j) (chV g o l.length j) (kk + 10 * pre.length) W' (by rw [chn_len]; omega) hb5 h1 h2)
    have hch : Slx S W (chV g o l.length j) (chn l j) := by
      refine ⟨Or.inr ⟨g, o + 5 * j * 2, min 5 (l.length - 5 * j), by rw [chn_len]; rfl, by rw [chn_len]; exact Nat.le_refl _, Nat.lt_of_lt_of_le ha hfW.size, ((hr.fr hfW ha hgS).drop (5 * j)).take 5⟩, fun k hk => ?_⟩
      simp [chV, Value.ownBlock] at hk
      rw [← hk]
      exact hgS
    gi_wp2_with (refine ⟨trivial, ?_⟩; gi_at_call 25; refine (CallsIn.inRound l1 (callsIn_wide.2 (HS.out _ hch hcW))).mono ?_; rintro e W1 ⟨u, rfl, hf1, hs1, hn1, hc1⟩)
    obtain ⟨hs1, _⟩ := hs1
    rcases hs1 with ⟨rfl, h0⟩ | ⟨g1, o1, cap1, rfl, hc1', ha1, hr1⟩
    · have e0 : (chn l j).length = 0 := by rw [← isort_len, h0]; rfl
      exact absurd e0 (by have := chn_pos hj; omega)
    obtain ⟨c0, c1⟩ := hr1 _ _ (md_some hj)
    have hv1 : Boxed W1 (w.heap.size + 1) 22 v := (hf1.block _ hv.lt (hNS _ (by omega))).trans hv
    have hlen := isort_len (chn l j)
    obtain ⟨m, hm⟩ : ∃ m, (chn l j).length = m := ⟨_, rfl⟩
    have hm0 := chn_pos hj
    have hm5 : (chn l j).length ≤ 5 := by rw [chn_len]; omega
    rw [hm] at hlen hm0 hm5 c0 c1
    rw [hlen] at hc1'
    rw [hlen]
    have hmI : (m : Int) / 2 = ((m / 2 : Nat) : Int) := by omega
    have hmL : ((m / 2 : Nat) : Int) < m := by omega
    have hmN : (0 : Int) ≤ ((m / 2 : Nat) : Int) := Int.natCast_nonneg _
    have hmW : IntKind.i64.wrap ((m / 2 : Nat) : Int) = ((m / 2 : Nat) : Int) := IntWalk.i64_in _ (by omega)
    have hmd : (m : Int).tdiv 2 = ((m / 2 : Nat) : Int) := by rw [Int.tdiv_eq_ediv_of_nonneg (by omega)]; omega
    obtain ⟨q, hq⟩ : ∃ q, m / 2 = q := ⟨_, rfl⟩
    rw [hq] at hmI hmL hmN hmW hmd c0 c1
    have hg1 : ¬ g1 = w.heap.size + 1 := by have := hn1 g1 rfl; have := hv.lt; omega
    have hg1' : ¬ w.heap.size + 1 = g1 := fun e => hg1 e.symm
    have HG1 := Lib.hid (And.intro (hn1 g1 rfl) ha1)
    have HROW := Lib.hid (show SortD.Own W1 (w.heap.size + 4) v (pre.map fun x => md l x.1) from by
      have h0 : SortD.Own W (w.heap.size + 4) v (pre.map fun x => md l x.1) := by unfold SortD.Own; rw [List.length_map]; exact hrow
      exact h0.fr hf1 (fun k hk => hNS k (by have := (PickA.Own.lt h0 k hk).1; omega)))
    have HV1 := Lib.hid hv1
    have HL1 := Lib.hid ((hf1.block _ hbl.lt (hNS _ (Nat.le_refl _))).trans hbl)
    have HC1 := Lib.hid (show Cnt J n (kk + 10 * pre.length + 10) W1 from hc1.le (by have := sc_chn l j; omega))
    have HF1 := Lib.hid hf1
    have KO1 := Lib.hid (keeps_fr hf1 (fun k hk => by obtain ⟨mm, _, hj⟩ := hcW; exact L.cells mm W k hj hk))
    have HN1 := Lib.hid hn1
    have hv2 := hv1
    obtain ⟨v0, v0f⟩ : W1.cell? ⟨w.heap.size + 1, 0, none⟩ = some v ∧ W1.frozen? ⟨w.heap.size + 1, 0, none⟩ = false := ⟨hv1.cell, hv1.frozen⟩
    have hvl1 := hv1.lt
    have hpl : pre.length ≤ 100 := by unfold nch at hlt; omega
    have HZ1 := Lib.hid (show w.heap.size + 4 ≤ W1.heap.size from Nat.le_trans hzW hf1.size)
    have HZ := Lib.hid hzW
    have HOF := Lib.hid (show ∀ k, Of v k → w.heap.size + 4 ≤ k ∧ k < W.heap.size from fun k hk => by
      have h0 : SortD.Own W (w.heap.size + 4) v (pre.map fun x => md l x.1) := by unfold SortD.Own; rw [List.length_map]; exact hrow
      exact PickA.Own.lt h0 k hk)
    have HNS := Lib.hid hNS
    have HFW := Lib.hid hfW
    have HVL := Lib.hid hv.lt
    clear hn1 hf1 hc1 hr1 hlen hv2 hv1 HS
    refine wpIn_mono (Q := fun e _ W' => e = .normal ∧ KeepsOthers W W' ∧ KpS (fun k => S k ∨ k = w.heap.size + 1) (w.heap.size + 4) W W' ∧ Mid F first S J w n kk l (pre ++ [⟨j, hj⟩]) W') (regionIn_of (S := fun W' => W'.cell? ⟨g1, o1 + q * 2, none⟩ = some (.int .i64 (md l j).1) ∧ W'.cell? ⟨g1, o1 + q * 2 + 1, none⟩ = some (.int .i64 (md l j).2)) (by kernel_rfl) (by rintro ⟨_, _, h, _⟩; cases h) (by kernel_rfl) ?_) ?_
    rotate_left
    · rintro e a W' ⟨rfl, h1, h2, h3⟩
      gi_wp2
      exact ⟨h1, h2, h3⟩
    refine wpAnyH_take (i := 1) (v := .slice (some ⟨g1, o1, none⟩) m cap1) rfl (by kernel_rfl) (by kernel_rfl) (by kernel_rfl) (fun _ _ _ h => by obtain ⟨h, _⟩ := h; cases h) (Or.inl ⟨by rfl, fun w' hw' => by obtain ⟨x0, x1⟩ := hw'; first | (go_simp; done) | (go_simp; rfl)⟩) ⟨c0, c1⟩ ?_
    (try simp only [Act.put, List.getElem_toArray, List.getElem_cons_zero, List.getElem_cons_succ, List.setIfInBounds_toArray, List.set_cons_zero, List.set_cons_succ])
    refine wpAnyH_take (i := 2) (v := .slice (some ⟨g1, o1, none⟩) m cap1) rfl (by kernel_rfl) (by kernel_rfl) (by kernel_rfl) (fun _ _ _ h => by obtain ⟨h, _⟩ := h; cases h) (Or.inl ⟨by rfl, fun w' hw' => by obtain ⟨x0, x1⟩ := hw'; first | (go_simp; done) | (go_simp; rfl)⟩) ⟨c0, c1⟩ ?_
    (try simp only [Act.put, List.getElem_toArray, List.getElem_cons_zero, List.getElem_cons_succ, List.setIfInBounds_toArray, List.set_cons_zero, List.set_cons_succ])
    refine wpAnyH_take (i := 3) (v := .int .i64 m) rfl (by kernel_rfl) (by kernel_rfl) (by kernel_rfl) (fun _ _ _ h => by obtain ⟨h, _⟩ := h; cases h) (Or.inl ⟨by rfl, fun w' hw' => by obtain ⟨x0, x1⟩ := hw'; first | (go_simp; done) | (go_simp; rfl)⟩) ⟨c0, c1⟩ ?_
    (try simp only [Act.put, List.getElem_toArray, List.getElem_cons_zero, List.getElem_cons_succ, List.setIfInBounds_toArray, List.set_cons_zero, List.set_cons_succ])
    refine wpAnyH_take (i := 4) (v := .int .i64 q) rfl (by kernel_rfl) (by kernel_rfl) (by kernel_rfl) (fun _ _ _ h => by obtain ⟨h, _⟩ := h; cases h) (Or.inl ⟨by rfl, fun w' hw' => by obtain ⟨x0, x1⟩ := hw'; first | (go_simp; done) | (go_simp; rfl)⟩) ⟨c0, c1⟩ ?_
    (try simp only [Act.put, List.getElem_toArray, List.getElem_cons_zero, List.getElem_cons_succ, List.setIfInBounds_toArray, List.set_cons_zero, List.set_cons_succ])
    refine wpAnyH_take (i := 5) (v := .pointer (some ⟨g1, o1 + q * 2, none⟩)) rfl (by kernel_rfl) (by kernel_rfl) (by kernel_rfl) (fun _ _ _ h => by obtain ⟨h, _⟩ := h; cases h) (Or.inl ⟨by rfl, fun w' hw' => by obtain ⟨x0, x1⟩ := hw'; first | (go_simp; done) | (go_simp; rfl)⟩) ⟨c0, c1⟩ ?_
    (try simp only [Act.put, List.getElem_toArray, List.getElem_cons_zero, List.getElem_cons_succ, List.setIfInBounds_toArray, List.set_cons_zero, List.set_cons_succ])
    refine wpAnyH_take (i := 6) (v := .agg #[.int .i64 (md l j).1, .int .i64 (md l j).2]) rfl (by kernel_rfl) (by kernel_rfl) (by kernel_rfl) (fun _ _ _ h => by obtain ⟨h, _⟩ := h; cases h) (Or.inl ⟨by rfl, fun w' hw' => by obtain ⟨x0, x1⟩ := hw'; first | (go_simp; done) | (go_simp; rfl)⟩) ⟨c0, c1⟩ ?_
    (try simp only [Act.put, List.getElem_toArray, List.getElem_cons_zero, List.getElem_cons_succ, List.setIfInBounds_toArray, List.set_cons_zero, List.set_cons_succ])
    refine wpAnyH_all (rs := [0, 7]) (by kernel_rfl) (by simp) (fun i hi => ?_)
    have hi2 : i = 0 ∨ i = 7 := by simpa using hi
    clear hi
    rcases hi2 with rfl | rfl
    · -- order 0
      skip
      refine wpOp_step rfl (fun K hK => ?_)
      go_simp
      refine hK _ _ ⟨⟨by go_simp, by go_simp⟩, ?_⟩
      clear hK K
      (try simp only [Act.put, List.getElem_toArray, List.getElem_cons_zero, List.getElem_cons_succ, List.setIfInBounds_toArray, List.set_cons_zero, List.set_cons_succ])
      refine wpAnyH_all (rs := [7]) (by kernel_rfl) (by simp) (fun i hi => ?_)
      obtain rfl : i = 7 := by simpa using hi
      clear hi
      refine wpOp_step rfl (fun K hK => ?_)
      go_simp
      refine hK _ _ ⟨⟨by go_simp, by go_simp⟩, ?_⟩
      clear hK K
      (try simp only [Act.put, List.getElem_toArray, List.getElem_cons_zero, List.getElem_cons_succ, List.setIfInBounds_toArray, List.set_cons_zero, List.set_cons_succ])
      refine wpAnyH_all (rs := [8]) (by kernel_rfl) (by simp) (fun i hi => ?_)
      obtain rfl : i = 8 := by simpa using hi
      clear hi
      refine wpOp_step rfl (fun K hK => ?_)
      rw [if_pos (by rfl)]
      refine wp_app (.tmp 14) (.tmp 21) rfl (w.heap.size + 4) _ _ _ [md l j] rfl (HROW.out.alloc _) rfl (one_sl' (md l j) rfl) (by rw [List.length_map]; simp; omega) (by have := HZ1.out; simp; omega) ?_
      intro v3 w3 h3 f3 b3 m3
      have h3' := h3
      unfold SortD.Own at h3'
      rw [List.length_append, List.length_singleton, List.length_map] at h3'
      obtain ⟨g3, cap3, rfl⟩ := ownsRow_succ h3'
      have hof := HOF.out
      have hz1 := HZ1.out
      have hgg := HG1.out
      have hb3 : Boxed w3 (w.heap.size + 1) 22 v := (f3.block _ (by simp; omega) (fun hk => by have := (hof _ hk).1; omega)).trans ((show Boxed W1.drew _ _ _ from HV1.out).alloc _)
      have y0 := hb3.cell
      have y1 := hb3.frozen
      have z0 : w3.cell? ⟨g1, o1 + q * 2, none⟩ = some (.int .i64 (md l j).1) := (f3.cell (p := ⟨g1, o1 + q * 2, none⟩) (by simp; omega) (fun hk => by have h8 : g1 < W.heap.size := (hof _ hk).2; have := hgg.1; omega)).trans (by go_simp)
      have z1 : w3.cell? ⟨g1, o1 + q * 2 + 1, none⟩ = some (.int .i64 (md l j).2) := (f3.cell (p := ⟨g1, o1 + q * 2 + 1, none⟩) (by simp; omega) (fun hk => by have h8 : g1 < W.heap.size := (hof _ hk).2; have := hgg.1; omega)).trans (by go_simp)
      have FX := Lib.hid (show Fr (Of v) (W1.drew.alloc (.cells #[.int .i64 (md l j).1, .int .i64 (md l j).2] 28)) w3 from f3)
      have H3 := Lib.hid h3
      have HB3 := Lib.hid hb3
      clear f3 h3 h3' b3 m3 hof hz1 hgg
      refine hK _ _ ⟨⟨z0, z1⟩, ?_⟩
      clear hK K
      (try simp only [Act.put, List.getElem_toArray, List.getElem_cons_zero, List.getElem_cons_succ, List.setIfInBounds_toArray, List.set_cons_zero, List.set_cons_succ])
      refine wpAnyH_all (rs := [9]) (by kernel_rfl) (by simp) (fun i hi => ?_)
      obtain rfl : i = 9 := by simpa using hi
      clear hi
      refine wpOp_step rfl (fun K hK => ?_)
      go_simp
      refine hK _ _ ⟨⟨by go_simp, by go_simp⟩, ?_⟩
      clear hK K
      (try simp only [Act.put, List.getElem_toArray, List.getElem_cons_zero, List.getElem_cons_succ, List.setIfInBounds_toArray, List.set_cons_zero, List.set_cons_succ])
      refine wpAnyH_done (by kernel_rfl) ?_ _
      have FA : Fr Nil W1 (W1.drew.alloc (.cells #[.int .i64 (md l j).1, .int .i64 (md l j).2] 28)) := ((Fr.refl Nil W1).drew).alloc _
      have FS : Fr (fun k => k = w.heap.size + 1) w3 (w3.setCell ⟨w.heap.size + 1, 0, none⟩ (.slice (some ⟨g3, 0, none⟩) (pre.length + 1) cap3)) := (Fr.refl (fun k => k = w.heap.size + 1) w3).setCell (p := ⟨w.heap.size + 1, 0, none⟩) (fun _ => rfl) _
      have hz1 := HZ1.out
      have hz0 := HZ.out
      have hz3 : w.heap.size + 4 ≤ w3.heap.size := Nat.le_trans hz1 (Nat.le_trans FA.size FX.out.size)
      have hg3 : w.heap.size + 4 ≤ g3 := (PickA.Own.lt H3.out g3 rfl).1
      have hmap : (pre ++ [(⟨j, hj⟩ : Ch l.length)]).map (fun x => md l x.1) = pre.map (fun x => md l x.1) ++ [md l j] := by rw [List.map_append]; rfl
      have hpl1 : (pre ++ [(⟨j, hj⟩ : Ch l.length)]).length = pre.length + 1 := by rw [List.length_append]; rfl
      refine ⟨rfl, KO1.out.trans ((keeps_fr FA (fun _ h => h.elim)).trans ((keeps_fr FX.out (own_cells (HROW.out.alloc _))).trans (KeepsOthers.setCell _ _ _))), ((KpS.fr HF1.out hz0 (fun k _ s => Or.inl s)).trans (KpS.fr FA hz1 (fun _ _ t => t.elim))).trans ((KpS.fr FX.out (Nat.le_trans hz1 FA.size) (fun k hk t => absurd (HOF.out k t).1 (by omega))).trans (KpS.fr FS hz3 (fun k _ t => Or.inr t))), ⟨_, HB3.out.set _, ?_, trivial⟩, ?_, ?_, ?_, ?_⟩
      · have h := SortD.Own.fr H3.out FS (fun k hk e => by have h1 := (PickA.Own.lt H3.out k hk).1; have h2 : k = w.heap.size + 1 := e; omega)
        unfold SortD.Own at h
        rw [hmap, hpl1]
        rw [List.length_append, List.length_singleton, List.length_map] at h
        exact h
      · exact (FS.block _ (by omega) (fun e => by have h2 : w.heap.size = w.heap.size + 1 := e; omega)).trans ((FX.out.block _ (by have := FA.size; omega) (fun t => by have := (HOF.out _ t).1; omega)).trans ((FA.block _ (by omega) (fun t => t.elim)).trans HL1.out))
      · exact (((HFW.out.trans HF1.out).trans FA.of_nil).then FX.out (fun i hi hlt => by have := (HOF.out i hi).1; omega)).then FS (fun i hi hlt => by have h2 : i = w.heap.size + 1 := hi; omega)
      · exact (((HC1.out.nil L FA).keep L FX.out (fun k hk => HNS.out k (by have := (HOF.out k hk).1; omega))).keep L FS (fun k hk => HNS.out k (by have h2 : k = w.heap.size + 1 := hk; omega))).le (by rw [hpl1]; omega)
      · exact Nat.le_trans hz3 FS.size
    · -- order 1
      skip
      refine wpOp_step rfl (fun K hK => ?_)
      go_simp
      refine hK _ _ ⟨⟨by go_simp, by go_simp⟩, ?_⟩
      clear hK K
      (try simp only [Act.put, List.getElem_toArray, List.getElem_cons_zero, List.getElem_cons_succ, List.setIfInBounds_toArray, List.set_cons_zero, List.set_cons_succ])
      refine wpAnyH_all (rs := [0]) (by kernel_rfl) (by simp) (fun i hi => ?_)
      obtain rfl : i = 0 := by simpa using hi
      clear hi
      refine wpOp_step rfl (fun K hK => ?_)
      go_simp
      refine hK _ _ ⟨⟨by go_simp, by go_simp⟩, ?_⟩
      clear hK K
      (try simp only [Act.put, List.getElem_toArray, List.getElem_cons_zero, List.getElem_cons_succ, List.setIfInBounds_toArray, List.set_cons_zero, List.set_cons_succ])
      refine wpAnyH_all (rs := [8]) (by kernel_rfl) (by simp) (fun i hi => ?_)
      obtain rfl : i = 8 := by simpa using hi
      clear hi
      refine wpOp_step rfl (fun K hK => ?_)
      rw [if_pos (by rfl)]
      refine wp_app (.tmp 14) (.tmp 21) rfl (w.heap.size + 4) _ _ _ [md l j] rfl (HROW.out.alloc _) rfl (one_sl' (md l j) rfl) (by rw [List.length_map]; simp; omega) (by have := HZ1.out; simp; omega) ?_
      intro v3 w3 h3 f3 b3 m3
      have h3' := h3
      unfold SortD.Own at h3'
      rw [List.length_append, List.length_singleton, List.length_map] at h3'
      obtain ⟨g3, cap3, rfl⟩ := ownsRow_succ h3'
      have hof := HOF.out
      have hz1 := HZ1.out
      have hgg := HG1.out
      have hb3 : Boxed w3 (w.heap.size + 1) 22 v := (f3.block _ (by simp; omega) (fun hk => by have := (hof _ hk).1; omega)).trans ((show Boxed W1.drew _ _ _ from HV1.out).alloc _)
      have y0 := hb3.cell
      have y1 := hb3.frozen
      have z0 : w3.cell? ⟨g1, o1 + q * 2, none⟩ = some (.int .i64 (md l j).1) := (f3.cell (p := ⟨g1, o1 + q * 2, none⟩) (by simp; omega) (fun hk => by have h8 : g1 < W.heap.size := (hof _ hk).2; have := hgg.1; omega)).trans (by go_simp)
      have z1 : w3.cell? ⟨g1, o1 + q * 2 + 1, none⟩ = some (.int .i64 (md l j).2) := (f3.cell (p := ⟨g1, o1 + q * 2 + 1, none⟩) (by simp; omega) (fun hk => by have h8 : g1 < W.heap.size := (hof _ hk).2; have := hgg.1; omega)).trans (by go_simp)
      have FX := Lib.hid (show Fr (Of v) (W1.drew.alloc (.cells #[.int .i64 (md l j).1, .int .i64 (md l j).2] 28)) w3 from f3)
      have H3 := Lib.hid h3
      have HB3 := Lib.hid hb3
      clear f3 h3 h3' b3 m3 hof hz1 hgg
      refine hK _ _ ⟨⟨z0, z1⟩, ?_⟩
      clear hK K
      (try simp only [Act.put, List.getElem_toArray, List.getElem_cons_zero, List.getElem_cons_succ, List.setIfInBounds_toArray, List.set_cons_zero, List.set_cons_succ])
      refine wpAnyH_all (rs := [9]) (by kernel_rfl) (by simp) (fun i hi => ?_)
      obtain rfl : i = 9 := by simpa using hi
      clear hi
      refine wpOp_step rfl (fun K hK => ?_)
      go_simp
      refine hK _ _ ⟨⟨by go_simp, by go_simp⟩, ?_⟩
      clear hK K
      (try simp only [Act.put, List.getElem_toArray, List.getElem_cons_zero, List.getElem_cons_succ, List.setIfInBounds_toArray, List.set_cons_zero, List.set_cons_succ])
      refine wpAnyH_done (by kernel_rfl) ?_ _
      have FA : Fr Nil W1 (W1.drew.alloc (.cells #[.int .i64 (md l j).1, .int .i64 (md l j).2] 28)) := ((Fr.refl Nil W1).drew).alloc _
      have FS : Fr (fun k => k = w.heap.size + 1) w3 (w3.setCell ⟨w.heap.size + 1, 0, none⟩ (.slice (some ⟨g3, 0, none⟩) (pre.length + 1) cap3)) := (Fr.refl (fun k => k = w.heap.size + 1) w3).setCell (p := ⟨w.heap.size + 1, 0, none⟩) (fun _ => rfl) _
      have hz1 := HZ1.out
      have hz0 := HZ.out
      have hz3 : w.heap.size + 4 ≤ w3.heap.size := Nat.le_trans hz1 (Nat.le_trans FA.size FX.out.size)
      have hg3 : w.heap.size + 4 ≤ g3 := (PickA.Own.lt H3.out g3 rfl).1
      have hmap : (pre ++ [(⟨j, hj⟩ : Ch l.length)]).map (fun x => md l x.1) = pre.map (fun x => md l x.1) ++ [md l j] := by rw [List.map_append]; rfl
      have hpl1 : (pre ++ [(⟨j, hj⟩ : Ch l.length)]).length = pre.length + 1 := by rw [List.length_append]; rfl
      refine ⟨rfl, KO1.out.trans ((keeps_fr FA (fun _ h => h.elim)).trans ((keeps_fr FX.out (own_cells (HROW.out.alloc _))).trans (KeepsOthers.setCell _ _ _))), ((KpS.fr HF1.out hz0 (fun k _ s => Or.inl s)).trans (KpS.fr FA hz1 (fun _ _ t => t.elim))).trans ((KpS.fr FX.out (Nat.le_trans hz1 FA.size) (fun k hk t => absurd (HOF.out k t).1 (by omega))).trans (KpS.fr FS hz3 (fun k _ t => Or.inr t))), ⟨_, HB3.out.set _, ?_, trivial⟩, ?_, ?_, ?_, ?_⟩
      · have h := SortD.Own.fr H3.out FS (fun k hk e => by have h1 := (PickA.Own.lt H3.out k hk).1; have h2 : k = w.heap.size + 1 := e; omega)
        unfold SortD.Own at h
        rw [hmap, hpl1]
        rw [List.length_append, List.length_singleton, List.length_map] at h
        exact h
      · exact (FS.block _ (by omega) (fun e => by have h2 : w.heap.size = w.heap.size + 1 := e; omega)).trans ((FX.out.block _ (by have := FA.size; omega) (fun t => by have := (HOF.out _ t).1; omega)).trans ((FA.block _ (by omega) (fun t => t.elim)).trans HL1.out))
      · exact (((HFW.out.trans HF1.out).trans FA.of_nil).then FX.out (fun i hi hlt => by have := (HOF.out i hi).1; omega)).then FS (fun i hi hlt => by have h2 : i = w.heap.size + 1 := hi; omega)
      · exact (((HC1.out.nil L FA).keep L FX.out (fun k hk => HNS.out k (by have := (HOF.out k hk).1; omega))).keep L FS (fun k hk => HNS.out k (by have h2 : k = w.heap.size + 1 := hk; omega))).le (by rw [hpl1]; omega)
      · exact Nat.le_trans hz3 FS.size
  case done =>
    rintro D xs W hD hS ⟨⟨v, hv, hrow, _⟩, hbl, hfW, hcW, hzW⟩ hK
    have hc := hv.cell
    have hxl : xs.length = nch l.length := by have h := congrArg List.length (show xs.map (·.1) = List.range (nch l.length) from hS); simpa using h
    have hxm : xs.map (fun x => md l x.1) = mids l := by
      have h : xs.map (·.1) = List.range (nch l.length) := hS
      unfold mids
      rw [← h, List.map_map]
      rfl
    gi_wp2
    refine ⟨by simp, .inl ⟨_, _, rfl, run_takeDeferred hK, ?_⟩⟩
    refine ⟨_, results_tmp rfl _ _ _, v, rfl, ?_, ?_, ?_⟩
    · exact (fr_own (β := Unit) (B := w4.heap.size) (by omega)) () W _ (some D) hfW (grownBy_putObj' _ _ _) (fun r e => by cases e; exact ⟨hD, _, hK, rfl⟩)
    · have h := ownsRow_putObj hrow (.deferred none) hK rfl
      rw [hxm] at h
      refine SortD.Own.weaken (b' := w.heap.size) (base := w.heap.size + 4) ?_ (by omega)
      unfold SortD.Own
      rw [← hxm, List.length_map, hxm]
      exact h
    · have h := (cnt_own (β := Unit) L (B := w4.heap.size) (fun k hk => by have := hSlt k hk; omega) (fun _ => kk + 10 * xs.length)) () W _ (some D) hcW (grownBy_putObj' _ _ (.deferred none)) (fun r e => by cases e; exact ⟨hD, _, hK, rfl⟩)
      rw [hxl] at h
      exact h
  case stop =>
    rintro D c pre W _ _ h _
    exact h.elim
end
end Go.Proofs.Ytokgeegbeagblaa.GenG
