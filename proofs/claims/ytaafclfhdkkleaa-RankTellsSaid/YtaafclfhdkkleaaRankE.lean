/- Chapter 9: the walks of Cells, values. -/
import Derived.Test.YtaafclfhdkkleaaRankD
namespace Go.Proofs.Ytaafclfhdkkleaa.RankE
open Go.RowKit Base SortA IntB IntC IntD IntE IntG IntH IntI IntJ IntK IntL IntQ RankA RankB RankC RankD Quiet
set_option linter.unusedVariables false
set_option linter.unusedSimpArgs false

theorem Cells_ok (l : List Pr) (p q : Pr) (v : Value) (w : World) (hl : l.length ≤ 100000) (ho : Srt l) (hv : Rk w v l) (hpq : p.1 ≤ q.1) :
    Calls Try.prog 10 #[v, .int .i64 p.1, .int .i64 q.1] w fun e w' => e = .returned (.tuple #[.int .i64 (cellOf l p.1), .int .i64 (cellOf l q.1), .bool true]) ∧ Fr Nil w w' := by
  have K := Lib.hid (cell_any l p v w hl ho hv)
  have K2 := Lib.hid (fun W (h : Fr Nil w W) => cell_any l q v W hl ho (hv.fr h))
  clear hv ho hl
  go_enter Try.func10, Try.ntmps10
  go_wp2_with fail
  refine K.out.mono ?_
  rintro e w1 ⟨rfl, hf1⟩
  go_wp2_with fail
  refine (K2.out _ hf1).mono ?_
  rintro e w2 ⟨rfl, hf2⟩
  go_wp2_with fail
  exact bodyPost_ret (v := .tuple #[.int .i64 (cellOf l p.1), .int .i64 (cellOf l q.1), .bool true]) (by simp [results, Try.results10, go_sem]) rfl ⟨rfl, hf1.trans hf2⟩

theorem Cells_bad (p q : Int) (v : Value) (w : World) (hpq : q < p) :
    Calls Try.prog 10 #[v, .int .i64 p, .int .i64 q] w fun e w' => e = .returned (.tuple #[.int .i64 0, .int .i64 0, .bool false]) ∧ Fr Nil w w' := by
  go_enter Try.func10, Try.ntmps10
  go_wp2_with fail
  exact bodyPost_ret (v := .tuple #[.int .i64 0, .int .i64 0, .bool false]) (by simp [results, Try.results10, go_sem]) rfl ⟨rfl, Fr.refl _ _⟩

set_option maxRecDepth 100000 in
theorem values_any (l : List Pr) (v : Value) (w : World) (hl : l.length ≤ 1000) (hv : Rk w v l) :
    Calls Try.prog 17 #[v] w fun e w' => ∃ u, e = .returned u ∧ Fr Nil w w' ∧ Sl w' u l := by
  have KL := Lib.hid (fun W (h : Fr Nil w W) => Len_any l v W (hv.fr h))
  have KV := Lib.hid (fun k x (hx : l[k]? = some x) W (h : Fr Nil w W) => Value_ok l k x v W hl hx (hv.fr h))
  clear hv
  go_enter Try.func17, Try.ntmps17
  go_wp2_with fail
  go_loopw [3, 4] (fun xo i wr => ∃ (k : Nat), k ≤ l.length ∧ i = .int .i64 k ∧ Own wr w.heap.size xo (l.take k) ∧ Fr Nil w wr) (fun _ i _ => l.length - (intOf i).toNat)
  case atStart => exact ⟨0, by omega, rfl, Own.made w w.heap.size (Nat.le_refl _), (Fr.refl _ _).alloc _⟩
  case round =>
    obtain ⟨k, hk, rfl, ho, hf⟩ := hrel
    have HO := Lib.hid ho
    have HF := Lib.hid hf
    by_cases hlt : k < l.length
    · obtain ⟨y, hy⟩ : ∃ y, l[k]? = some y := ⟨l[k], List.getElem?_eq_getElem hlt⟩
      have HE := Lib.hid (show l.take (k + 1) = l.take k ++ [y] by
        obtain ⟨h1, h2⟩ := List.getElem?_eq_some_iff.1 hy
        rw [List.take_succ_eq_append_getElem h1, h2])
      have KY := Lib.hid (KV.out k y hy)
      have HL := Lib.hid (show (l.take k).length ≤ 1000 by rw [List.length_take]; omega)
      have hlt' : (k : Int) < l.length := by omega
      clear ho hf hy
      go_wp2_with fail
      refine (KL.out _ HF.out).mono ?_
      rintro e w1 ⟨rfl, hf1⟩
      have HF1 := Lib.hid (HF.out.trans hf1)
      have HO1 := Lib.hid (HO.out.fr hf1 (fun _ _ h => h))
      clear hf1
      go_wp2_with fail
      refine (KY.out _ HF1.out).mono ?_
      rintro e w2 ⟨rfl, hf2⟩
      have HF2 := Lib.hid (HF1.out.trans hf2)
      have HO2 := Lib.hid (HO1.out.fr hf2 (fun _ _ h => h))
      have hsz2 : w.heap.size ≤ w2.heap.size := HF2.out.size
      clear hf2
      go_wp2_with (at_builtin; refine wpList_app rfl (.tmp 20) (.tmp 22) rfl w.heap.size _ _ (l.take k) [y] rfl (HO2.out.alloc _) rfl (one_sl' y rfl) (by have := HL.out; simp at this ⊢; omega) (by first | (simp; done) | (simp; omega)) ?_; intro v3 w3 h3 f3 b3 m3; have F3 : Fr Nil w w3 := Fr.then (HF2.out.alloc _) f3 (fun i hi hlt => by have := (b3 i hi).1; omega))
      go_roundw
      case rel => exact ⟨k + 1, by omega, by go_num, by rw [HE.out]; exact h3, F3⟩
      case measure => simp [intOf]; omega
    · obtain rfl : k = l.length := by omega
      have HE := Lib.hid (show Sl wr u3 l by have h := ho.sl; rw [List.take_length] at h; exact h)
      clear ho hf HO
      go_wp2_with fail
      refine (KL.out _ HF.out).mono ?_
      rintro e w1 ⟨rfl, hf1⟩
      go_wp2_with fail
      go_ret
      exact ⟨_, rfl, HF.out.trans hf1, Sl.fr HE.out hf1⟩
end Go.Proofs.Ytaafclfhdkkleaa.RankE
