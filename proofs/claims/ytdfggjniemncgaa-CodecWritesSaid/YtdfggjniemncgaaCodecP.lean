/- Chapter 29: requests and their bytes: the plain law. -/
import Derived.Test.YtdfggjniemncgaaCodecK
import Derived.Test.YtdfggjniemncgaaCodecG
namespace Go.Proofs.Ytdfggjniemncgaa.CodecP
open VintA VintC VintD CodecA CodecB CodecC CodecJ CodecK
open CodecD (next rd dec next_some next_none next_of next_len rd_none rd_some)
set_option linter.unusedVariables false
set_option linter.unusedSimpArgs false

theorem kq_kb {r : Rq} (hg : GoodQ r) : kq (kb r) = bareQ r := by
  unfold GoodQ at hg
  unfold kb bareQ kq
  by_cases h1 : r.k = 1
  · rw [if_neg (show ¬ r.k = 2 by omega), if_pos h1, if_neg (by omega)]
  · rw [if_pos (show r.k = 2 by omega), if_neg h1, if_pos (by omega), show 16 + r.qk - 16 = r.qk by omega]
theorem rd_body {r : Rq} (hl : Long r) : ∀ (l : List Nat) (a : Rq), rd a l (body r l) = .ok (copyQ a r l)
  | [], a => by simp [rd, body, copyQ]
  | o :: l, a => by
    have hb : body r (o :: l) = vint (fold (num r o)) ++ body r l := by simp [body]
    have hn : next (body r (o :: l)) = some (fold (num r o)) := next_some ⟨fold_lt (num_long hl o).1 (num_long hl o).2, _, hb⟩
    rw [rd_some hn, hb, List.drop_left, unfold_fold, rd_body hl l]
    rfl
/-- a good request's bytes name it, its numbers alone -/
theorem dec_enc {r : Rq} (hg : GoodQ r) (hl : Long r) : dec (encB r) = .ok (onlyQ r) := by
  unfold encB
  have hg' : GoodQ (kq (kb r)) := by rw [kq_kb hg]; exact bare_good hg
  simp only [dec, if_pos hg']
  rw [kq_kb hg, bare_offs hg, rd_body hl, only_good hg]
theorem enc_only {r : Rq} (hg : GoodQ r) : encB (onlyQ r) = encB r ∧ GoodQ (onlyQ r) := by
  rw [only_good hg]
  have hk := kinds hg
  obtain ⟨k, ck, p0, p1, p2, s0, s1, s2, qk, x1, x2, y1, y2, v1, v2, v3, x, h⟩ := r
  dsimp only at hk
  rcases hk with ⟨rfl, rfl | rfl | rfl | rfl⟩ | ⟨rfl, rfl | rfl | rfl | rfl | rfl | rfl | rfl⟩ <;>
    exact ⟨by simp [encB, kb, body, offs, num, qi, copyQ, bareQ, setN], by simp [GoodQ, offs, num, qi, copyQ, bareQ, setN]⟩
theorem apart {r s : Rq} (hr : GoodQ r) (hs : GoodQ s) (lr : Long r) (ls : Long s) : encB r = encB s ↔ qi (onlyQ r) = qi (onlyQ s) := by
  constructor
  · intro h
    have h1 := dec_enc hr lr
    rw [h, dec_enc hs ls] at h1
    rw [Except.ok.inj h1]
  · intro h
    have h := CodecI.qi_inj h
    rw [← (enc_only hr).1, h, (enc_only hs).1]
theorem enc_bytes {r : Rq} (hg : GoodQ r) : Bytes (encB r) := by
  intro x hx
  unfold encB at hx
  rcases List.mem_cons.1 hx with rfl | hx
  · unfold GoodQ at hg
    unfold kb
    split <;> omega
  · unfold body at hx
    obtain ⟨o, _, ho⟩ := List.mem_flatMap.1 hx
    exact vint_byte _ x ho
theorem enc_len {r : Rq} (hl : Long r) : (encB r).length ≤ 41 := by
  have h1 := body_len hl (offs r)
  have h2 := CodecB.offs_len r
  unfold encB
  rw [List.length_cons]
  omega

theorem num_set (a : Rq) {o : Nat} (n : Int) (o' : Nat) (ho : o < 18) : num (setN a o n) o' = if o = o' then n else num a o' := by
  have h : qi (setN a o n) = (qi a).set o n := by
    have h : o = 0 ∨ o = 1 ∨ o = 2 ∨ o = 3 ∨ o = 4 ∨ o = 5 ∨ o = 6 ∨ o = 7 ∨ o = 8 ∨ o = 9 ∨ o = 10 ∨ o = 11 ∨ o = 12 ∨ o = 13 ∨ o = 14 ∨ o = 15 ∨ o = 16 ∨ o = 17 := by omega
    rcases h with rfl | rfl | rfl | rfl | rfl | rfl | rfl | rfl | rfl | rfl | rfl | rfl | rfl | rfl | rfl | rfl | rfl | rfl <;> rfl
  unfold num
  rw [h, List.getD_eq_getElem?_getD, List.getD_eq_getElem?_getD, List.getElem?_set]
  have hq : (qi a).length = 18 := rfl
  split
  · rw [if_pos (by omega)]; rfl
  · rfl
theorem num_copy (x : Rq) (o : Nat) : ∀ (l : List Nat) (a : Rq), (∀ i ∈ l, i < 18) → o ∉ l → num (copyQ a x l) o = num a o
  | [], a, _, _ => rfl
  | i :: l, a, hl, ho => by
    have h := num_copy x o l (setN a i (num x i)) (fun j hj => hl j (by simp [hj])) (fun h => ho (by simp [h]))
    show num (copyQ (setN a i (num x i)) x l) o = num a o
    rw [h, num_set _ _ _ (hl i (by simp)), if_neg (fun h => ho (by simp [h]))]
theorem rd_back {x : Rq} : ∀ (l : List Nat) (a : Rq) (t : List Int), (∀ i ∈ l, i < 18) → l.Nodup → rd a l t = .ok x → x = copyQ a x l ∧ t = body x l ∧ ∀ o ∈ l, -9223372036854775808 ≤ num x o ∧ num x o ≤ 9223372036854775807
  | [], a, t, _, _, h => by
    rw [rd] at h
    split at h
    · cases h
      rename_i ht
      exact ⟨rfl, ht, by simp⟩
    · cases h
  | o :: l, a, t, hl, hn, h => by
    cases hx : next t with
    | none => rw [rd_none hx] at h; cases h
    | some z =>
      rw [rd_some hx] at h
      obtain ⟨hno, hn'⟩ := List.nodup_cons.1 hn
      obtain ⟨h1, h2, h3⟩ := rd_back l _ _ (fun j hj => hl j (by simp [hj])) hn' h
      obtain ⟨hz, u, hu⟩ := next_of hx
      have hnum : num x o = unfold_ z := by
        rw [h1, num_copy _ _ _ _ (fun j hj => hl j (by simp [hj])) hno, num_set _ _ _ (hl o (by simp)), if_pos rfl]
      have hd : t.drop (vint z).length = u := by rw [hu, List.drop_left]
      refine ⟨?_, ?_, ?_⟩
      · show x = copyQ (setN a o (num x o)) x l
        rw [hnum]
        exact h1
      · rw [hd] at h2
        rw [hu, h2]
        simp [body, hnum, fold_unfold]
      · intro i hi
        rcases List.mem_cons.1 hi with rfl | hi
        · rw [hnum]; exact unfold_range hz
        · exact h3 i hi
theorem offs_nodup (r : Rq) : (offs r).Nodup ∧ 0 ∉ offs r ∧ 1 ∉ offs r ∧ 8 ∉ offs r := by
  unfold offs
  repeat' split
  all_goals decide
/-- bytes that name a request are that one's -/
theorem dec_back {b : List Int} (hb : Bytes b) {x : Rq} (h : dec b = .ok x) : GoodQ x ∧ qi (onlyQ x) = qi x ∧ encB x = b ∧ Long x := by
  match b, h with
  | [], h => cases h
  | c :: t, h =>
    have hc := hb c (by simp)
    simp only [dec] at h
    split at h
    · rename_i hg
      obtain ⟨hnd, h0, h1, h8⟩ := offs_nodup (kq c)
      obtain ⟨e1, e2, e3⟩ := rd_back _ _ _ (CodecB.offs_lt _) hnd h
      have n0 : num x 0 = num (kq c) 0 := by rw [e1]; exact num_copy _ _ _ _ (CodecB.offs_lt _) h0
      have n1 : num x 1 = num (kq c) 1 := by rw [e1]; exact num_copy _ _ _ _ (CodecB.offs_lt _) h1
      have n8 : num x 8 = num (kq c) 8 := by rw [e1]; exact num_copy _ _ _ _ (CodecB.offs_lt _) h8
      have n0' : x.k = (kq c).k := n0
      have n1' : x.ck = (kq c).ck := n1
      have n8' : x.qk = (kq c).qk := n8
      have hgx : GoodQ x := by unfold GoodQ at *; rw [n0', n1', n8']; exact hg
      have hof : offs x = offs (kq c) := by unfold offs; rw [n0', n1', n8']
      have hkb : kb x = c := by
        unfold kb
        rw [n0', n1', n8']
        unfold kq
        split
        · simp
          omega
        · simp
      have hbq : bareQ x = kq c := by rw [← kq_kb hgx, hkb]
      refine ⟨hgx, ?_, ?_, ?_⟩
      · rw [only_good hgx, hbq, hof, ← e1]
      · unfold encB
        rw [hkb, hof, ← e2]
      · intro n hn
        obtain ⟨o, ho, hno⟩ := List.mem_iff_getElem.1 hn
        have hnum : num x o = n := by unfold num; rw [List.getD_eq_getElem?_getD, List.getElem?_eq_getElem ho, hno]; rfl
        rw [← hnum]
        by_cases hm : o ∈ offs (kq c)
        · exact e3 o hm
        · have : num x o = num (kq c) o := by rw [e1]; exact num_copy _ _ _ _ (CodecB.offs_lt _) hm
          rw [this]
          have hlk : Long (kq c) := by
            intro m hm
            unfold kq at hm
            split at hm <;> simp [qi] at hm <;> omega
          exact num_long hlk o
    · cases h
end Go.Proofs.Ytdfggjniemncgaa.CodecP
