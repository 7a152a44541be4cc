/- Chapter 3: twice the area of points, as a sum; its bounds. -/
import Derived.Test.YtalbaopfdejooaaAreaA
import Derived.Test.YtalbaopfdejooaaWhole
namespace Go.Proofs.Ytalbaopfdejooaa.AreaB
open Go.RowKit Base Slices RowsA KernA KernB AreaA
set_option linter.unusedVariables false
set_option linter.unusedSimpArgs false

/-- which comes behind place k of n -/
def nxi (n k : Nat) : Nat := if k + 1 < n then k + 1 else 0
/-- the term of two points -/
def tr (p q : Pn) : Int := p.2.1 * q.2.2 - q.2.1 * p.2.2
def term (l : List Pn) (k : Nat) : Int := match l[k]?, l[nxi l.length k]? with
  | some p, some q => if lie q then tr p q else 0
  | _, _ => 0
def S (l : List Pn) : Nat → Int
  | 0 => 0
  | k + 1 => S l k + term l k

theorem nxi_lt {n k : Nat} (h : k < n) : nxi n k < n := by unfold nxi; split <;> omega
theorem nxi_rem {n k : Nat} (h : k < n) : ((k : Int) + 1).tmod n = nxi n k := by
  unfold nxi
  split
  · rw [Int.tmod_eq_emod_of_nonneg (by omega), Int.emod_eq_of_lt (by omega) (by omega)]; rfl
  · obtain rfl : n = k + 1 := by omega
    rw [show ((k : Int) + 1) = ((k + 1 : Nat) : Int) by omega, Int.tmod_self]; rfl
theorem term_yes {l : List Pn} {k : Nat} {p q : Pn} (h : l[k]? = some p) (h' : l[nxi l.length k]? = some q) (hq : lie q = true) : term l k = tr p q := by
  simp only [term, h, h', hq, if_true]
theorem term_no {l : List Pn} {k : Nat} {p q : Pn} (h : l[k]? = some p) (h' : l[nxi l.length k]? = some q) (hq : lie q = false) : term l k = 0 := by
  simp only [term, h, h', hq, Bool.false_eq_true, if_false]
theorem lie_bd {p : Pn} (h : lie p = true) : (-1099511627776 ≤ p.2.1 ∧ p.2.1 ≤ 1099511627776) ∧ -1099511627776 ≤ p.2.2 ∧ p.2.2 ≤ 1099511627776 := lieB_iff.1 h
theorem tr_bd {p q : Pn} (hp : lie p = true) (hq : lie q = true) : -9671406556917033397649408 ≤ tr p q ∧ tr p q ≤ 9671406556917033397649408 := by
  obtain ⟨⟨a, b⟩, c, d⟩ := lie_bd hp
  obtain ⟨⟨a', b'⟩, c', d'⟩ := lie_bd hq
  have m1 := mul_bd (a := p.2.1) (b := q.2.2) (by omega) (by omega)
  have m2 := mul_bd (a := q.2.1) (b := p.2.2) (by omega) (by omega)
  unfold tr
  omega
theorem S_bd {l : List Pn} : ∀ k : Nat, k ≤ l.length → (∀ (j : Nat) p, j < k → l[j]? = some p → lie p = true) → -(k * 9671406556917033397649408) ≤ S l k ∧ S l k ≤ k * 9671406556917033397649408
  | 0, _, _ => by simp [S]
  | k + 1, hk, h => by
    have ih := S_bd k (by omega) (fun j p hj hp => h j p (by omega) hp)
    obtain ⟨p, hp⟩ : ∃ p, l[k]? = some p := ⟨l[k], List.getElem?_eq_getElem (by omega)⟩
    obtain ⟨q, hq⟩ : ∃ q, l[nxi l.length k]? = some q := ⟨_, List.getElem?_eq_getElem (nxi_lt (by omega))⟩
    have hlp := h k p (by omega) hp
    have ht : -9671406556917033397649408 ≤ term l k ∧ term l k ≤ 9671406556917033397649408 := by
      rcases hz : lie q with _ | _
      · rw [term_no hp hq hz]; omega
      · rw [term_yes hp hq hz]; exact tr_bd hlp hz
    simp only [S]
    omega
theorem S_in {l : List Pn} (hl : l.length ≤ 20) {k : Nat} (hk : k ≤ l.length) (h : ∀ (j : Nat) p, j < k → l[j]? = some p → lie p = true) : -193428131138340667952988160 ≤ S l k ∧ S l k ≤ 193428131138340667952988160 := by
  have := S_bd k hk h
  omega
/-- of three points it is their turn's number -/
theorem S_three {a b c : Pn} (ha : lie a = true) (hb : lie b = true) (hc : lie c = true) : S [a, b, c] 3 = crz a.2.1 a.2.2 b.2.1 b.2.2 c.2.1 c.2.2 := by
  have h0 : term [a, b, c] 0 = tr a b := term_yes rfl rfl hb
  have h1 : term [a, b, c] 1 = tr b c := term_yes rfl rfl hc
  have h2 : term [a, b, c] 2 = tr c a := term_yes rfl rfl ha
  simp only [S, h0, h1, h2]
  unfold tr crz
  grind
theorem all_at {l : List Pn} (h : ∀ p ∈ l, lie p = true) : ∀ (j : Nat) p, l[j]? = some p → lie p = true := fun j p hp => h p (List.mem_of_getElem? hp)
/-- a wide number's cells -/
def wcs (n : Int) : Array Value := #[.int .i64 (n / 18446744073709551616), .int .u64 (n % 18446744073709551616)]
theorem wide_row : RowT Try.prog 56 2 := ⟨Or.inl ⟨_, Try.underlying56⟩, by kernel_rfl⟩
theorem pt_row : RowT Try.prog 34 3 := ⟨Or.inl ⟨_, Try.underlying34⟩, by kernel_rfl⟩
theorem digits_row : RowT Try.prog 41 9 := ⟨Or.inr ⟨_, _, Try.underlying41⟩, by kernel_rfl⟩

end Go.Proofs.Ytalbaopfdejooaa.AreaB
