/- Unlike ones of a list of ints in order; the walk of Unique[int]. -/
import Derived.Test.YtaafclfhdkkleaaIntL
namespace Go.Proofs.Ytaafclfhdkkleaa.IntQ
open Go.RowKit Base SortA IntB IntC IntD IntE IntG IntH IntI IntJ IntK IntL Quiet
set_option linter.unusedVariables false
set_option linter.unusedSimpArgs false

def Good (l : List Pr) : Prop := ∀ (i : Nat) x y, l[i]? = some x → l[i + 1]? = some y → x.1 ≤ y.1

theorem Srt.good {l : List Pr} (h : Srt l) : Good l := fun i x y hx hy => by
  obtain ⟨h1, e1⟩ := List.getElem?_eq_some_iff.1 hx
  obtain ⟨h2, e2⟩ := List.getElem?_eq_some_iff.1 hy
  have := List.pairwise_iff_getElem.1 h i (i + 1) h1 h2 (by omega)
  rw [e1, e2] at this
  exact this


def ustep (out : List Pr) (v : Pr) : List Pr := match out.getLast? with
  | none => [v]
  | some z => if z.1 < v.1 then out ++ [v] else out
def uq (l : List Pr) : List Pr := l.foldl ustep []

theorem uq_step {l : List Pr} {k : Nat} {v : Pr} (h : l[k]? = some v) : uq (l.take (k + 1)) = ustep (uq (l.take k)) v := by
  obtain ⟨hk, rfl⟩ := List.getElem?_eq_some_iff.1 h
  unfold uq
  rw [List.take_succ_eq_append_getElem hk, List.foldl_append]
  rfl

theorem ustep_len (out : List Pr) (v : Pr) : (ustep out v).length ≤ out.length + 1 := by
  unfold ustep
  split
  · simp
  · split <;> simp

theorem uq_len (l : List Pr) : ∀ k, k ≤ l.length → (uq (l.take k)).length ≤ k := by
  intro k
  induction k with
  | zero => intro _; simp [uq]
  | succ k ih =>
    intro hk
    have h : l[k]? = some (l[k]'(by omega)) := List.getElem?_eq_getElem _
    rw [uq_step h]
    have := ustep_len (uq (l.take k)) (l[k]'(by omega))
    have := ih (by omega)
    omega

/-- the last of the unlike ones is alike the last one taken -/
theorem uq_last {l : List Pr} (hs : Srt l) : ∀ k y, l[k]? = some y → ∃ z, (uq (l.take (k + 1))).getLast? = some z ∧ z.1 = y.1 := by
  intro k
  induction k with
  | zero =>
    intro y hy
    rw [uq_step hy]
    refine ⟨y, ?_, rfl⟩
    simp [uq, ustep]
  | succ k ih =>
    intro y hy
    have hk : k + 1 < l.length := (List.getElem?_eq_some_iff.1 hy).1
    have hx : l[k]? = some (l[k]'(by omega)) := List.getElem?_eq_getElem _
    obtain ⟨z, hz, hzx⟩ := ih _ hx
    have hxy := Srt.good hs k _ _ hx hy
    rw [uq_step hy]
    unfold ustep
    rw [hz]
    by_cases h : z.1 < y.1
    · simp only [if_pos h]
      exact ⟨y, by simp, rfl⟩
    · simp only [if_neg h]
      exact ⟨z, hz, by omega⟩

theorem last_at {l : List Pr} {z : Pr} (h : l.getLast? = some z) : ∃ n, l.length = n + 1 ∧ l[n]? = some z := by
  rcases List.eq_nil_or_concat l with rfl | ⟨a, y, rfl⟩
  · simp at h
  · simp only [List.concat_eq_append, List.getLast?_append, List.getLast?_singleton] at h
    refine ⟨a.length, by simp, ?_⟩
    simp at h ⊢
    exact h

theorem wrap_small {j : Nat} (h : j ≤ 1000) : wrap64 (j : Int) = j := by unfold wrap64; omega

set_option maxRecDepth 100000 in
set_option maxHeartbeats 4000000 in
theorem unique_any (l : List Pr) (v : Value) (w : World) (hl : l.length ≤ 1000) (hv : Sl w v l) :
    Calls Try.prog 27 #[v, lessV] w fun e w' => ∃ u, e = .returned u ∧ Fr Nil w w' ∧ Sl w' u (uq l) := by
  unfold lessV
  rcases hv with ⟨rfl, rfl⟩ | ⟨g, o, cap, rfl, hc, ha, hr⟩
  · go_enter Try.func27, Try.ntmps27
    go_wp2_with fail
    refine wp_loop_rounds 1 ?_
    rw [rounds_succ]
    go_wp2
    go_ret
    exact ⟨_, rfl, Fr.refl _ _, Or.inl ⟨rfl, rfl⟩⟩
  · go_enter Try.func27, Try.ntmps27
    go_wp2_with fail
    go_loopw [5, 11] (fun xo i wr => ∃ (k : Nat), k ≤ l.length ∧ i = .int .i64 k ∧ Own wr w.heap.size xo (uq (l.take k)) ∧ Fr Nil w wr) (fun _ i _ => l.length - (intOf i).toNat)
    case atStart => exact ⟨0, by omega, rfl, World.ownsRow_nil _ _ _ _, Fr.refl _ _⟩
    case round =>
      obtain ⟨k, hk, rfl, ho, hf⟩ := hrel
      have HO := Lib.hid ho
      have HF := Lib.hid hf
      by_cases hlt : k < l.length
      · obtain ⟨y, hy⟩ : ∃ y, l[k]? = some y := ⟨l[k], List.getElem?_eq_getElem hlt⟩
        obtain ⟨c0, _⟩ := (hr.fr hf ha id) k y hy
        have HY := Lib.hid (uq_step hy)
        have hql := uq_len l k hk
        have hsz : w.heap.size ≤ wr.heap.size := hf.size
        generalize uq (l.take k) = so at *
        rcases hz : so.getLast? with _ | z
        · have hnil : so = [] := List.getLast?_eq_none_iff.1 hz
          have HE := Lib.hid (show uq (l.take (k + 1)) = [y] by rw [HY.out, hnil]; rfl)
          subst hnil
          obtain ⟨A, d, rfl⟩ := Sl.shape ho.sl
          clear hy ho hf hz hql HY
          simp only [List.length_nil] at HO ⊢
          go_wp2_with (at_builtin; refine wpList_app rfl (.tmp 29) (.tmp 31) rfl w.heap.size _ _ [] [y] rfl (HO.out.alloc _) rfl (one_sl' y (by simp)) (by first | (simp; done) | (simp; omega)) (by first | (simp; done) | (simp; omega)) ?_; intro v3 w3 h3 f3 b3 m3; have F3 : Fr Nil w w3 := Fr.then (HF.out.alloc _) f3 (fun i hi hlt => by have := (b3 i hi).1; omega))
          go_roundw
          case rel => exact ⟨k + 1, by omega, by go_num, by rw [HE.out]; exact h3, F3⟩
          case measure => simp [intOf]; omega
        · obtain ⟨n, hn, hzn⟩ := last_at hz
          rcases ho.sl with ⟨_, h0⟩ | ⟨g2, o2, cap2, rfl, hc2, hg2, hrow⟩
          · rw [h0] at hn; simp at hn
          obtain ⟨z0, _⟩ := hrow n z hzn
          have LS := Lib.hid (fun W => less_any z y W)
          have HYZ := Lib.hid (show uq (l.take (k + 1)) = if z.1 < y.1 then so ++ [y] else so by rw [HY.out]; unfold ustep; rw [hz])
          have HL := Lib.hid hn
          rw [hn] at HO ⊢
          have hn0 : ¬ (n : Int) < 0 := by omega
          have hn1 : (n : Int) < (n : Int) + 1 := by omega
          have hn2 : (0 : Int) ≤ n := Int.natCast_nonneg n
          have hww : (n : Int) + 1 - 1 = n := by omega
          have hwn : wrap64 (n : Int) = n := wrap_small (by omega)
          clear hy ho hf hz hrow hg2 hzn hn HY hc2
          by_cases hzy : z.1 < y.1
          · have HE := Lib.hid (show uq (l.take (k + 1)) = so ++ [y] by rw [HYZ.out, if_pos hzy])
            simp only [decide_eq_true hzy] at LS
            go_wp2_with fail
            refine (LS.out _).mono ?_
            rintro e w2 ⟨rfl, hfq⟩
            have HO2 := Lib.hid (Own.fr HO.out hfq (fun _ _ h => h))
            have HF2 := Lib.hid (HF.out.trans hfq)
            have hsz2 : w.heap.size ≤ w2.heap.size := HF2.out.size
            clear hfq
            go_wp2_with (at_builtin; refine wpList_app rfl (.tmp 29) (.tmp 31) rfl w.heap.size _ _ so [y] rfl (show Own _ w.heap.size _ so from HO2.out.alloc _) rfl (one_sl' y rfl) (by have := HL.out; first | (simp; done) | (simp; omega)) (by first | (simp; done) | (simp; omega)) ?_; intro v3 w3 h3 f3 b3 m3; have F3 : Fr Nil w w3 := Fr.then (HF2.out.alloc _) f3 (fun i hi hlt => by have := (b3 i hi).1; omega))
            go_roundw
            case rel => exact ⟨k + 1, by omega, by go_num, by rw [HE.out]; exact h3, F3⟩
            case measure => simp [intOf]; omega
          · have HE := Lib.hid (show uq (l.take (k + 1)) = so by rw [HYZ.out, if_neg hzy])
            simp only [decide_eq_false hzy] at LS
            go_wp2_with fail
            refine (LS.out _).mono ?_
            rintro e w2 ⟨rfl, hfq⟩
            have HO2 := Lib.hid (Own.fr HO.out hfq (fun _ _ h => h))
            have HF2 := Lib.hid (HF.out.trans hfq)
            clear hfq
            go_wp2_with fail
            go_roundw
            case rel => exact ⟨k + 1, by omega, by go_num, by rw [HE.out]; exact HO2.out, HF2.out⟩
            case measure => simp [intOf]; omega
      · obtain rfl : k = l.length := by omega
        have HE := Lib.hid (show Sl wr u5 (uq l) by have h := ho.sl; rw [List.take_length] at h; exact h)
        clear ho hf HO
        go_wp2_with fail
        go_ret
        exact ⟨_, rfl, HF.out, HE.out⟩
end Go.Proofs.Ytaafclfhdkkleaa.IntQ
